/-
  Texts of the proof, one after the other.
  Conditions: none.
-/
import Derived.Test.YtkbggengagockaaBfSl
import Derived.Test.YtkbggengagockaaBfArr
import Derived.Test.YtkbggengagockaaBfStr
import Derived.Test.YtkbggengagockaaBfConvS
import Derived.Test.YtkbggengagockaaBfUnd
import Derived.Test.YtkbggengagockaaP9b
/-
  The journal: Sync.
  Conditions: none.
-/
namespace Go.Proofs.Ytkbggengagockaa
open Go Bf
attribute [local irreducible] Tr Exec Stab HasTy Go.Addr.add IntKind.wrap
/-- the writes of records, one after the other -/
def wrsAll (g : Nat) : Nat → List (List UInt8) → List (Int × List UInt8)
  | _, [] => []
  | at_, b :: l => wrs g at_ b ++ wrsAll g (at_ + occ b.length) l
theorem wrsAll_length (g : Nat) : ∀ (l : List (List UInt8)) (at_ : Nat), (wrsAll g at_ l).length = occs l
  | [], _ => rfl
  | b :: l, at_ => by
    rw [wrsAll, List.length_append, wrs_length, wrsAll_length g l]
    simp [occs]
theorem wrsAll_snoc (g : Nat) : ∀ (l : List (List UInt8)) (at_ : Nat) (b : List UInt8), wrsAll g at_ (l ++ [b]) = wrsAll g at_ l ++ wrs g (at_ + occs l) b
  | [], at_, b => by simp [wrsAll, occs]
  | c :: l, at_, b => by
    rw [List.cons_append, wrsAll, wrsAll_snoc g l, wrsAll, List.append_assoc]
    have : at_ + occ c.length + occs l = at_ + occs (c :: l) := by simp [occs]; omega
    rw [this]
theorem wrsAll_mem {g : Nat} : ∀ {l : List (List UInt8)} {at_ : Nat} {w : Int × List UInt8}, w ∈ wrsAll g at_ l → (at_ : Int) ≤ w.1 ∧ w.1 < ((at_ + occs l : Nat) : Int) ∧ w.2.length = 128
  | [], _, _, h => by cases h
  | b :: l, at_, w, h => by
    rw [wrsAll] at h
    have e : occs (b :: l) = occ b.length + occs l := by simp [occs]
    rcases List.mem_append.1 h with h | h
    · simp only [wrs, List.mem_map, List.mem_range] at h
      obtain ⟨j, hj, rfl⟩ := h
      refine ⟨?_, ?_, bF_length (piece_le _ _)⟩
      · simp only [wr1]; omega
      · simp only [wr1]; omega
    · have := wrsAll_mem h
      omega
theorem wrsAll_runs {d : Dsk} {g at_ : Nat} {l : List (List UInt8)} (h : runs d) (ha : at_ + occs l ≤ d.sec.length) (hp : d.pen = []) : runs (dAfter d (wrsAll g at_ l)) := by
  obtain ⟨⟨h1, h2, h3, h4, h5, h6, h7⟩, h8⟩ := h
  refine ⟨⟨h1, h2, ?_, h4, ?_, h6, h7⟩, h8⟩
  · show (d.pen ++ _).length ≤ 4096
    rw [hp, List.nil_append, wrsAll_length]
    omega
  · intro w hw
    have hw' : w ∈ d.pen ++ wrsAll g at_ l := hw
    rw [hp, List.nil_append] at hw'
    have := wrsAll_mem hw'
    exact ⟨by omega, by show _ < (d.sec.length : Int); omega, this.2.2⟩
def syncJ (j : Jr) (d : Dsk) : Jr × Dsk × Int :=
  if okJ j then
    if idleF d j.many = 0 then
      if recs d.sec = j.rcs.take j.syn.toNat then
        if gmax d.sec + 1 ≤ 4294967295 then
          if j.syn = (j.rcs.length : Int) then (j, d, 0)
          else
            (let s := syncF (dAfter d (wrsAll (gmax d.sec + 1) (occs (j.rcs.take j.syn.toNat)) (j.rcs.drop j.syn.toNat)))
             if s.2 = 0 then (⟨j.many, (j.rcs.length : Int), j.rcs⟩, s.1, 0) else (zJ, s.1, s.2))
        else (zJ, zD, 450)
      else (zJ, zD, 450)
    else (zJ, zD, idleF d j.many)
  else (zJ, zD, 1)
def R3 (M : Mem) (r : Value) (x : Jr × Dsk × Int) : Prop := ∃ v w, r = .tuple #[v, w, .int .i64 x.2.2] ∧ RJr M v x.1 ∧ RDisk M w x.2.1
theorem R3.zero (M : Mem) (e : Int) : R3 M (.tuple #[.agg #[.int .i64 0, .int .i64 0, .slice none 0 0], .agg #[.slice none 0 0, .slice none 0 0, .int .i64 0, .bool false], .int .i64 e]) (zJ, zD, e) := ⟨_, _, rfl, RJr.zero M, RDisk.zero M⟩

set_option maxHeartbeats 8000000 in
theorem sync_jfn (M : Mem) (v w : Value) (j : Jr) (d : Dsk) (h : RJr M v j) (hd : RDisk M w d) (ho : occs j.rcs ≤ 1000000000) :
    Fn0 Try.prog 21 [v, w] M (fun r M' => R3 M' r (syncJ j d)) := by
  have hJ := h
  have hD := hd
  obtain ⟨A, c, rfl, h1⟩ := h
  obtain ⟨A2, c2, B2, k2, rfl, h2, h3⟩ := hd
  have l1 := h1.len_le
  refine Fn.intro Try.func21 rfl rfl Try.ntmps21 rfl fun E F => ?_
  repeat (first | ((with_reducible refine Tr.step rfl ?_); (first | ((with_reducible refine Knd.assign ?_); (refine Exec.stab rfl (Stab.assign rfl) rfl ?_)) | ((with_reducible refine Knd.load ?_); ((refine Exec.stab rfl (Stab.loadW rfl (tysOk.get rfl) rfl (by repeat (first | exact Has.here | apply Has.there)) rfl) rfl ?_))) | ((with_reducible refine Knd.box ?_); (first | (refine Exec.box rfl rfl (fun b => ?_)) | (refine Exec.box1 rfl (by first | rfl | assumption) rfl (fun b => ?_)))) | ((with_reducible refine Knd.alloc ?_); (first | (refine Exec.alloc (tysOk.get rfl) rfl rfl (fun b => ?_)) | (refine Exec.alloc1 (tysOk.get rfl) rfl rfl rfl (fun b => ?_)))))) | (with_reducible refine Tr.next ?_) | (with_reducible refine Tr.seq ?_) | (with_reducible refine Tr.region ?_) | (with_reducible refine Tr.nil ?_))
  rename_i b2 b3 b4
  generalize b = b5
  by_cases hk : okJ j
  rotate_left
  · ((refine Tr.step rfl ?_)); refine Exec.call0 rfl (jcheck_n M _ j hJ ho hk) rfl ?_
    rintro _ _ _ ⟨rfl, rfl⟩
    repeat (first | ((with_reducible refine Tr.step rfl ?_); (first | ((with_reducible refine Knd.move ?_); (refine Exec.stab rfl (Stab.move rfl) rfl ?_)) | ((with_reducible refine Knd.assign ?_); (refine Exec.stab rfl (Stab.assign rfl) rfl ?_)) | ((with_reducible refine Knd.binOp ?_); ((refine Exec.stab rfl (Stab.int rfl rfl rfl) rfl ?_))) | ((with_reducible refine Knd.store ?_); ((refine Exec.storeW rfl rfl (tysOk.get rfl) (by repeat (first | exact Upd.here | apply Upd.there)) rfl rfl (by repeat (first | exact AllOne.nil | refine AllOne.cons (by first | rfl | assumption) ?_)) ?_))) | ((with_reducible refine Knd.build ?_); ((refine Exec.stab rfl (Stab.build tysOk rfl rfl rfl rfl (by repeat (exact BuildP.nil))) rfl ?_))))) | (with_reducible refine Tr.next ?_) | (with_reducible refine Tr.seq ?_) | (with_reducible refine Tr.region ?_) | (with_reducible refine Tr.nil ?_) | (with_reducible refine Tr.ret ?_) | (with_reducible refine Tr.then_ret ?_) | (refine Tr.cond_t rfl (by first | (with_reducible assumption) | (with_reducible rfl) | (with_reducible exact (not_not_intro rfl)) | omega) ?_))
    (refine Tr.done (by first | exact .inl rfl | exact .inr rfl) rfl (by repeat (first | exact RVs.nil | (apply RVs.cons; (first | exact RV.tmp rfl | exact RV.cellW (by rfl) (tysOk.get (by rfl)) (by rfl) (by repeat (first | exact Has.here | apply Has.there)) (by first | rfl | assumption))))) (by first | exact Mem.le.refl _ | assumption) (by exact ⟨[_, _, _, _], rfl⟩) ⟨rfl, ?_⟩)
    rw [syncJ, if_neg hk]
    exact R3.zero M 1
  ((refine Tr.step rfl ?_)); refine Exec.call0 rfl (jcheck_y M _ j hJ ho hk) rfl ?_
  rintro _ _ _ ⟨rfl, rfl⟩
  repeat (first | ((with_reducible refine Tr.step rfl ?_); (first | ((with_reducible refine Knd.move ?_); (refine Exec.stab rfl (Stab.move rfl) rfl ?_)) | ((with_reducible refine Knd.assign ?_); (refine Exec.stab rfl (Stab.assign rfl) rfl ?_)) | ((with_reducible refine Knd.load ?_); (first | (refine Exec.stab rfl (Stab.load rfl (tysOk.get rfl) rfl (by repeat (first | exact Has.here | apply Has.there)) rfl) rfl ?_) | (refine Exec.stab rfl (Stab.loadW rfl (tysOk.get rfl) rfl (by repeat (first | exact Has.here | apply Has.there)) rfl) rfl ?_))) | ((with_reducible refine Knd.fieldAddr ?_); ((refine Exec.stab rfl (Stab.fieldZ rfl (tysOk.get rfl) rfl rfl (tysOk.get rfl) rfl) rfl ?_))) | ((with_reducible refine Knd.binOp ?_); ((refine Exec.stab rfl (Stab.int rfl rfl rfl) rfl ?_))))) | (with_reducible refine Tr.next ?_) | (with_reducible refine Tr.seq ?_) | (with_reducible refine Tr.region ?_) | (with_reducible refine Tr.nil ?_) | (with_reducible refine Tr.skip ?_) | (refine Tr.cond_f rfl (by first | (with_reducible assumption) | (with_reducible rfl) | (with_reducible exact (not_not_intro rfl)) | omega) ?_))
  ((refine Tr.step rfl ?_)); refine Exec.call0 rfl (idle_fn M _ d j.many hD) rfl ?_
  rintro _ _ _ ⟨rfl, rfl⟩
  by_cases hi : idleF d j.many = 0
  rotate_left
  · repeat (first | ((with_reducible refine Tr.step rfl ?_); (first | ((with_reducible refine Knd.move ?_); (refine Exec.stab rfl (Stab.move rfl) rfl ?_)) | ((with_reducible refine Knd.assign ?_); (refine Exec.stab rfl (Stab.assign rfl) rfl ?_)) | ((with_reducible refine Knd.binOp ?_); ((refine Exec.stab rfl (Stab.int rfl rfl rfl) rfl ?_))) | ((with_reducible refine Knd.store ?_); ((refine Exec.storeW rfl rfl (tysOk.get rfl) (by repeat (first | exact Upd.here | apply Upd.there)) rfl rfl (by repeat (first | exact AllOne.nil | refine AllOne.cons (by first | rfl | assumption) ?_)) ?_))) | ((with_reducible refine Knd.build ?_); ((refine Exec.stab rfl (Stab.build tysOk rfl rfl rfl rfl (by repeat (exact BuildP.nil))) rfl ?_))))) | (with_reducible refine Tr.next ?_) | (with_reducible refine Tr.seq ?_) | (with_reducible refine Tr.region ?_) | (with_reducible refine Tr.nil ?_) | (with_reducible refine Tr.ret ?_) | (with_reducible refine Tr.then_ret ?_) | (refine Tr.cond_t rfl (by first | (with_reducible assumption) | (with_reducible rfl) | (with_reducible exact (not_not_intro rfl)) | omega) ?_))
    (refine Tr.done (by first | exact .inl rfl | exact .inr rfl) rfl (by repeat (first | exact RVs.nil | (apply RVs.cons; (first | exact RV.tmp rfl | exact RV.cellW (by rfl) (tysOk.get (by rfl)) (by rfl) (by repeat (first | exact Has.here | apply Has.there)) (by first | rfl | assumption))))) (by first | exact Mem.le.refl _ | assumption) (by exact ⟨[_, _, _, _], rfl⟩) ⟨rfl, ?_⟩)
    rw [syncJ, if_pos hk, if_neg hi]
    exact R3.zero M _
  obtain ⟨hok, hst', hpen, hmany⟩ := idleF_ok hi
  obtain ⟨k1, k2', k3, k4, k5⟩ := id hk
  have hmany' : j.many = (d.sec.length : Int) := by
    by_cases e : j.many = (d.sec.length : Int)
    · exact e
    · exact absurd ⟨by omega, e⟩ hmany
  have hS : ∃ S : Nat, j.syn = (S : Int) := ⟨j.syn.toNat, by omega⟩
  obtain ⟨S, hS⟩ := hS
  have hSl : S ≤ j.rcs.length := by omega
  have hcap := h1.cells
  obtain ⟨cells, -, g1, g2, g3, g4, g5⟩ := hcap
  rw [hi, hS]
  repeat (first | ((with_reducible refine Tr.step rfl ?_); (first | ((with_reducible refine Knd.move ?_); (refine Exec.stab rfl (Stab.move rfl) rfl ?_)) | ((with_reducible refine Knd.assign ?_); (refine Exec.stab rfl (Stab.assign rfl) rfl ?_)) | ((with_reducible refine Knd.load ?_); ((refine Exec.stab rfl (Stab.load rfl (tysOk.get rfl) rfl (by repeat (first | exact Has.here | apply Has.there)) rfl) rfl ?_))) | ((with_reducible refine Knd.fieldAddr ?_); ((refine Exec.stab rfl (Stab.fieldZ rfl (tysOk.get rfl) rfl rfl (tysOk.get rfl) rfl) rfl ?_))) | ((with_reducible refine Knd.binOp ?_); ((refine Exec.stab rfl (Stab.int rfl rfl rfl) rfl ?_))) | ((with_reducible refine Knd.slice ?_); ((refine Exec.stab rfl (Stab.slice_h rfl rfl (tysOk.get rfl) rfl (tysOk.get rfl) (by omega) (by omega)) rfl ?_))))) | (with_reducible refine Tr.next ?_) | (with_reducible refine Tr.seq ?_) | (with_reducible refine Tr.region ?_) | (with_reducible refine Tr.nil ?_) | (with_reducible refine Tr.skip ?_) | (refine Tr.cond_f rfl (by first | (with_reducible assumption) | (with_reducible rfl) | (with_reducible exact (not_not_intro rfl)) | omega) ?_))
  refine Tr.less [(36, _), (9, _), (6, _), (5, _), (4, _), (3, _), (2, _)] _ (by repeat (first | exact SubFr.nil | refine SubFr.cons rfl ?_)) (by repeat (first | exact DropL.refl | apply DropL.skip)) ?_
  have htl : (j.rcs.take S).length = S := by rw [List.length_take]; omega
  have htl' : S ≤ c := by omega
  ((refine Tr.step rfl ?_))
  refine Exec.call (A := []) rfl (records_fn M A2 d.sec.length c2) (List.Perm.refl _) rfl ?_
  rintro _ _ _ - ⟨bb, rfl, rfl, rfl⟩
  repeat (fail)
  ((refine Tr.step rfl ?_))
  refine Exec.call (A := [box bb 22 [.slice A2 d.sec.length c2]]) rfl (collect_fn M A2 c2 bb d.sec h2 hok.2.2.2.1 hok.2.1) (List.Perm.refl _) rfl ?_
  rintro _ M1 _ hm1 ⟨rfl, R, rc, rfl, hR⟩
  have hpre : SlOf 1 RSec M1 (.slice A S c) (j.rcs.take S) := (h1.mono RSec.mono hm1).pre hSl htl' (Nat.le_refl _)
  have heq := equalF_fn M1 R A rc c (recs d.sec) (j.rcs.take S) hR (by rw [htl]; exact hpre)
  rw [htl] at heq
  repeat (((with_reducible refine Tr.step rfl ?_); (((with_reducible refine Knd.move ?_); (refine Exec.stab rfl (Stab.move rfl) rfl ?_)))))
  ((refine Tr.step rfl ?_)); refine Exec.call0 rfl (heq) rfl ?_
  rintro _ _ _ ⟨rfl, rfl⟩
  have hT : j.syn.toNat = S := by omega
  by_cases hrec : recs d.sec = j.rcs.take S
  rotate_left
  · rw [decide_eq_false hrec]
    repeat (first | ((with_reducible refine Tr.step rfl ?_); (first | ((with_reducible refine Knd.assign ?_); (refine Exec.stab rfl (Stab.assign rfl) rfl ?_)) | ((with_reducible refine Knd.unOp ?_); ((refine Exec.stab rfl (Stab.not rfl) rfl ?_))) | ((with_reducible refine Knd.store ?_); ((refine Exec.storeW rfl rfl (tysOk.get rfl) (by repeat (first | exact Upd.here | apply Upd.there)) rfl rfl (by repeat (first | exact AllOne.nil | refine AllOne.cons (by first | rfl | assumption) ?_)) ?_))) | ((with_reducible refine Knd.build ?_); ((refine Exec.stab rfl (Stab.build tysOk rfl rfl rfl rfl (by repeat (exact BuildP.nil))) rfl ?_))))) | (with_reducible refine Tr.next ?_) | (with_reducible refine Tr.seq ?_) | (with_reducible refine Tr.region ?_) | (with_reducible refine Tr.nil ?_) | (with_reducible refine Tr.ret ?_) | (with_reducible refine Tr.then_ret ?_) | (refine Tr.cond_bt rfl (by first | (with_reducible rfl) | (with_reducible assumption) | (with_reducible exact Bool.not_true) | (with_reducible exact Bool.not_false)) ?_))
    (refine Tr.done (by first | exact .inl rfl | exact .inr rfl) rfl (by repeat (first | exact RVs.nil | (apply RVs.cons; (first | exact RV.tmp rfl | exact RV.cellW (by rfl) (tysOk.get (by rfl)) (by rfl) (by repeat (first | exact Has.here | apply Has.there)) (by first | rfl | assumption))))) (by first | exact Mem.le.refl _ | assumption) (by exact ⟨[_, _, _, _], rfl⟩) ⟨rfl, ?_⟩)
    rw [syncJ, if_pos hk, if_pos hi, if_neg (by rw [hT]; exact hrec)]
    exact R3.zero _ _
  rw [decide_eq_true hrec]
  repeat (first | ((with_reducible refine Tr.step rfl ?_); (first | ((with_reducible refine Knd.load ?_); ((refine Exec.stab rfl (Stab.loadW rfl (tysOk.get rfl) rfl (by repeat (first | exact Has.here | apply Has.there)) rfl) rfl ?_))) | ((with_reducible refine Knd.unOp ?_); ((refine Exec.stab rfl (Stab.not rfl) rfl ?_))))) | (with_reducible refine Tr.next ?_) | (with_reducible refine Tr.seq ?_) | (with_reducible refine Tr.region ?_) | (with_reducible refine Tr.nil ?_) | (with_reducible refine Tr.skip ?_) | (refine Tr.cond_bf rfl (by first | (with_reducible rfl) | (with_reducible assumption) | (with_reducible exact Bool.not_true) | (with_reducible exact Bool.not_false)) ?_))
  ((refine Tr.step rfl ?_)); refine Exec.call0 rfl (next_fn M1 _ d (hD.mono hm1) hok.2.2.2.1) rfl ?_
  rintro _ _ _ ⟨rfl, rfl⟩
  by_cases hg : gmax d.sec + 1 ≤ 4294967295
  rotate_left
  · have hg' : (4294967295 : Int) < ((gmax d.sec + 1 : Nat) : Int) := by omega
    repeat (first | ((with_reducible refine Tr.step rfl ?_); (first | ((with_reducible refine Knd.move ?_); (refine Exec.stab rfl (Stab.move rfl) rfl ?_)) | ((with_reducible refine Knd.assign ?_); (refine Exec.stab rfl (Stab.assign rfl) rfl ?_)) | ((with_reducible refine Knd.binOp ?_); ((refine Exec.stab rfl (Stab.int rfl rfl rfl) rfl ?_))) | ((with_reducible refine Knd.store ?_); ((refine Exec.storeW rfl rfl (tysOk.get rfl) (by repeat (first | exact Upd.here | apply Upd.there)) rfl rfl (by repeat (first | exact AllOne.nil | refine AllOne.cons (by first | rfl | assumption) ?_)) ?_))) | ((with_reducible refine Knd.build ?_); ((refine Exec.stab rfl (Stab.build tysOk rfl rfl rfl rfl (by repeat (exact BuildP.nil))) rfl ?_))))) | (with_reducible refine Tr.next ?_) | (with_reducible refine Tr.seq ?_) | (with_reducible refine Tr.region ?_) | (with_reducible refine Tr.nil ?_) | (with_reducible refine Tr.ret ?_) | (with_reducible refine Tr.then_ret ?_) | (refine Tr.cond_t rfl (by first | (with_reducible assumption) | (with_reducible rfl) | (with_reducible exact (not_not_intro rfl)) | omega) ?_))
    (refine Tr.done (by first | exact .inl rfl | exact .inr rfl) rfl (by repeat (first | exact RVs.nil | (apply RVs.cons; (first | exact RV.tmp rfl | exact RV.cellW (by rfl) (tysOk.get (by rfl)) (by rfl) (by repeat (first | exact Has.here | apply Has.there)) (by first | rfl | assumption))))) (by first | exact Mem.le.refl _ | assumption) (by exact ⟨[_, _, _, _], rfl⟩) ⟨rfl, ?_⟩)
    rw [syncJ, if_pos hk, if_pos hi, if_pos (by rw [hT]; exact hrec), if_neg hg]
    exact R3.zero _ _
  generalize hgg : gmax d.sec + 1 = g at hg
  by_cases hSe : (S : Int) = (j.rcs.length : Int)
  · repeat (first | ((with_reducible refine Tr.step rfl ?_); (first | ((with_reducible refine Knd.move ?_); (refine Exec.stab rfl (Stab.move rfl) rfl ?_)) | ((with_reducible refine Knd.assign ?_); (refine Exec.stab rfl (Stab.assign rfl) rfl ?_)) | ((with_reducible refine Knd.load ?_); ((refine Exec.stab rfl (Stab.load rfl (tysOk.get rfl) rfl (by repeat (first | exact Has.here | apply Has.there)) rfl) rfl ?_))) | ((with_reducible refine Knd.fieldAddr ?_); ((refine Exec.stab rfl (Stab.fieldZ rfl (tysOk.get rfl) rfl rfl (tysOk.get rfl) rfl) rfl ?_))) | ((with_reducible refine Knd.len ?_); ((refine Exec.stab rfl (Stab.len rfl (tysOk.get rfl) rfl) rfl ?_))) | ((with_reducible refine Knd.binOp ?_); ((refine Exec.stab rfl (Stab.int rfl rfl rfl) rfl ?_))))) | (with_reducible refine Tr.next ?_) | (with_reducible refine Tr.seq ?_) | (with_reducible refine Tr.region ?_) | (with_reducible refine Tr.nil ?_) | (with_reducible refine Tr.skip ?_) | (refine Tr.cond_t rfl (by first | (with_reducible assumption) | (with_reducible rfl) | (with_reducible exact (not_not_intro rfl)) | omega) ?_) | (refine Tr.cond_f rfl (by first | (with_reducible assumption) | (with_reducible rfl) | (with_reducible exact (not_not_intro rfl)) | omega) ?_))
    (((apply Tr.draw ((box b3 25 [.slice A2 d.sec.length c2, .slice B2 d.pen.length k2, .int .i64 d.left, .bool d.stop] :: box b2 29 [.int .i64 j.many, .int .i64 (S : Int), .slice A j.rcs.length c] :: ([] ++ F)))); (kernel_rfl)); (refine TrA.take 0 (by kernel_rfl) rfl (by kernel_rfl) (by first | exact fun _ _ _ h => h | exact fun _ _ _ h => nomatch h.1) (by exact (Sub.mem (by repeat (first | exact Sub.refl | apply Sub.cons)))) rfl (by exact Stab.loadW rfl (tysOk.get rfl) rfl (by repeat (first | exact Has.here | apply Has.there)) rfl) rfl rfl ?_); (refine TrA.take 1 (by kernel_rfl) rfl (by kernel_rfl) (by first | exact fun _ _ _ h => h | exact fun _ _ _ h => nomatch h.1) (by exact (Sub.mem (by repeat (first | exact Sub.refl | apply Sub.cons)))) rfl (by exact Stab.loadW rfl (tysOk.get rfl) rfl (by repeat (first | exact Has.here | apply Has.there)) rfl) rfl rfl ?_); (refine TrA.eff 2 rfl (by kernel_rfl) (by first | exact .inl rfl | exact .inr ⟨_, _, _, rfl, rfl, rfl⟩) ?_); (((refine Knd.store ?_); ((refine Exec.storeW rfl rfl (tysOk.get rfl) (by repeat (first | exact Upd.here | apply Upd.there)) rfl rfl (by repeat (first | exact AllOne.nil | refine AllOne.cons (by first | rfl | assumption) ?_)) ?_)))); (refine ⟨(by first | exact Mem.le.refl _ | assumption), (by exact (Sub.mem (by repeat (first | exact Sub.refl | apply Sub.cons)))), ?_⟩); (refine TrA.eff 3 rfl (by kernel_rfl) (by first | exact .inl rfl | exact .inr ⟨_, _, _, rfl, rfl, rfl⟩) ?_); (((refine Knd.store ?_); ((refine Exec.storeW rfl rfl (tysOk.get rfl) (by repeat (first | exact Upd.here | apply Upd.there)) rfl rfl (by repeat (first | exact AllOne.nil | refine AllOne.cons (by first | rfl | assumption) ?_)) ?_)))); (refine ⟨(by first | exact Mem.le.refl _ | assumption), (by exact (Sub.mem (by repeat (first | exact Sub.refl | apply Sub.cons)))), ?_⟩); (refine TrA.take 4 (by kernel_rfl) rfl (by kernel_rfl) (by first | exact fun _ _ _ h => h | exact fun _ _ _ h => nomatch h.1) (by exact (Sub.mem (by repeat (first | exact Sub.refl | apply Sub.cons)))) rfl (by first | exact Stab.assign rfl) rfl rfl ?_); (refine TrA.done (by kernel_rfl) ?_))
    repeat (first | (with_reducible refine Tr.next ?_) | (with_reducible refine Tr.ret ?_) | (with_reducible refine Tr.then_ret ?_))
    (refine Tr.done (by first | exact .inl rfl | exact .inr rfl) rfl (by repeat (first | exact RVs.nil | (apply RVs.cons; (first | exact RV.tmp rfl | exact RV.cellW (by rfl) (tysOk.get (by rfl)) (by rfl) (by repeat (first | exact Has.here | apply Has.there)) (by first | rfl | assumption))))) (by first | exact Mem.le.refl _ | assumption) (by exact ⟨[_, _, _, _], rfl⟩) ⟨rfl, ?_⟩)
    rw [syncJ, if_pos hk, if_pos hi, if_pos (by rw [hT]; exact hrec), hgg, if_pos hg, if_pos (by rw [hS]; exact hSe)]
    exact ⟨_, _, rfl, ⟨A, c, by rw [hS], h1.mono RSec.mono hm1⟩, hD.mono hm1⟩
  have hsub : SlOf 1 RSec M1 _ ((j.rcs.drop S).take (j.rcs.length - S)) := (h1.mono RSec.mono hm1).sub (l := S) (k := j.rcs.length) (m := c) hSl (Nat.le_refl _) g1 (Nat.le_refl _)
  rw [List.take_of_length_le (by rw [List.length_drop]; exact Nat.le_refl _)] at hsub
  have hocc := occupied_fn M1 A c (j.rcs.take S) (by rw [htl]; exact hpre) (Nat.le_trans (occs_le _ _) ho)
  rw [htl] at hocc
  repeat (first | ((with_reducible refine Tr.step rfl ?_); (first | ((with_reducible refine Knd.move ?_); (refine Exec.stab rfl (Stab.move rfl) rfl ?_)) | ((with_reducible refine Knd.assign ?_); (refine Exec.stab rfl (Stab.assign rfl) rfl ?_)) | ((with_reducible refine Knd.load ?_); ((refine Exec.stab rfl (Stab.load rfl (tysOk.get rfl) rfl (by repeat (first | exact Has.here | apply Has.there)) rfl) rfl ?_))) | ((with_reducible refine Knd.fieldAddr ?_); ((refine Exec.stab rfl (Stab.fieldZ rfl (tysOk.get rfl) rfl rfl (tysOk.get rfl) rfl) rfl ?_))) | ((with_reducible refine Knd.len ?_); ((refine Exec.stab rfl (Stab.len rfl (tysOk.get rfl) rfl) rfl ?_))) | ((with_reducible refine Knd.binOp ?_); ((refine Exec.stab rfl (Stab.int rfl rfl rfl) rfl ?_))))) | (with_reducible refine Tr.next ?_) | (with_reducible refine Tr.seq ?_) | (with_reducible refine Tr.region ?_) | (with_reducible refine Tr.nil ?_) | (with_reducible refine Tr.skip ?_) | (refine Tr.cond_f rfl (by first | (with_reducible assumption) | (with_reducible rfl) | (with_reducible exact (not_not_intro rfl)) | omega) ?_))
  (((apply Tr.draw ((box b3 25 [.slice A2 d.sec.length c2, .slice B2 d.pen.length k2, .int .i64 d.left, .bool d.stop] :: box b2 29 [.int .i64 j.many, .int .i64 (S : Int), .slice A j.rcs.length c] :: ([] ++ F)))); (kernel_rfl)); (refine TrA.take 0 (by kernel_rfl) rfl (by kernel_rfl) (by first | exact fun _ _ _ h => h | exact fun _ _ _ h => nomatch h.1) (by exact (Sub.mem (by repeat (first | exact Sub.refl | apply Sub.cons)))) rfl (by exact Stab.loadW rfl (tysOk.get rfl) rfl (by repeat (first | exact Has.here | apply Has.there)) rfl) rfl rfl ?_); (refine TrA.take 1 (by kernel_rfl) rfl (by kernel_rfl) (by first | exact fun _ _ _ h => h | exact fun _ _ _ h => nomatch h.1) (by exact (Sub.mem (by repeat (first | exact Sub.refl | apply Sub.cons)))) rfl (by first | exact Stab.move rfl) rfl rfl ?_); (refine TrA.eff 2 rfl (by kernel_rfl) (by first | exact .inl rfl | exact .inr ⟨_, _, _, rfl, rfl, rfl⟩) ?_))
  refine Exec.call0 rfl hocc rfl ?_
  rintro _ _ _ ⟨rfl, rfl⟩
  refine ⟨Mem.le.refl _, (by exact (Sub.mem (by repeat (first | exact Sub.refl | apply Sub.cons)))), ?_⟩
  ((refine TrA.eff 3 rfl (by kernel_rfl) (by first | exact .inl rfl | exact .inr ⟨_, _, _, rfl, rfl, rfl⟩) ?_); (((refine Knd.store ?_); ((refine Exec.storeW rfl rfl (tysOk.get rfl) (by repeat (first | exact Upd.here | apply Upd.there)) rfl rfl (by repeat (first | exact AllOne.nil | refine AllOne.cons (by first | rfl | assumption) ?_)) ?_)))); (refine ⟨(by first | exact Mem.le.refl _ | assumption), (by exact (Sub.mem (by repeat (first | exact Sub.refl | apply Sub.cons)))), ?_⟩); (refine TrA.take 4 (by kernel_rfl) rfl (by kernel_rfl) (by first | exact fun _ _ _ h => h | exact fun _ _ _ h => nomatch h.1) (by exact (Sub.mem (by repeat (first | exact Sub.refl | apply Sub.cons)))) rfl (by first | exact Stab.assign rfl) rfl rfl ?_); (refine TrA.done (by kernel_rfl) ?_))
  repeat (first | ((with_reducible refine Tr.step rfl ?_); (first | ((with_reducible refine Knd.move ?_); (refine Exec.stab rfl (Stab.move rfl) rfl ?_)) | ((with_reducible refine Knd.load ?_); ((refine Exec.stab rfl (Stab.load rfl (tysOk.get rfl) rfl (by repeat (first | exact Has.here | apply Has.there)) rfl) rfl ?_))) | ((with_reducible refine Knd.fieldAddr ?_); ((refine Exec.stab rfl (Stab.fieldZ rfl (tysOk.get rfl) rfl rfl (tysOk.get rfl) rfl) rfl ?_))) | ((with_reducible refine Knd.len ?_); ((refine Exec.stab rfl (Stab.len rfl (tysOk.get rfl) rfl) rfl ?_))) | ((with_reducible refine Knd.slice ?_); ((refine Exec.stab rfl (Stab.slice_l rfl rfl (tysOk.get rfl) rfl (tysOk.get rfl) rfl (by omega) (by omega)) rfl ?_))))) | (with_reducible refine Tr.next ?_) | (with_reducible refine Tr.seq ?_) | (with_reducible refine Tr.region ?_) | (with_reducible refine Tr.nil ?_) | (with_reducible refine Tr.block ?_))
  rw [Int.toNat_natCast S]
  have hall : j.rcs = j.rcs.take S ++ j.rcs.drop S := (List.take_append_drop _ _).symm
  have hsum : occs j.rcs = occs (j.rcs.take S) + occs (j.rcs.drop S) := occs_split _ _
  have hTl : (j.rcs.drop S).length = j.rcs.length - S := List.length_drop
  generalize (if c = S then A else A.map (·.add (S * 1))) = A3 at hsub ⊢
  generalize c - S = c3 at hsub ⊢
  rw [← hTl] at hsub ⊢
  generalize hTT : j.rcs.drop S = T at hsub hsum hTl
  generalize ha0 : occs (j.rcs.take S) = a0 at hsum
  have hTlen := hsub.len_le
  refine Tr.loop (α := Nat × Mem × (Option Addr × Nat × Option Addr × Nat)) (fun y => ⟨103, [(67, .int .i64 y.1), (66, .int .i64 T.length), (65, .slice A3 T.length c3), (11, .int .i64 ((a0 + occs (T.take y.1) : Nat) : Int)), (10, .int .i64 (g : Int)), (5, .pointer (some ⟨b5, 0, none⟩)), (4, .pointer (some ⟨b4, 0, none⟩)), (3, .pointer (some ⟨b3, 0, none⟩)), (2, .pointer (some ⟨b2, 0, none⟩))], [], y.2.1, box b5 25 [.slice y.2.2.1 d.sec.length y.2.2.2.1, .slice y.2.2.2.2.1 (d.pen ++ wrsAll g a0 (T.take y.1)).length y.2.2.2.2.2, .int .i64 d.left, .bool d.stop] :: box b4 29 [.int .i64 0, .int .i64 0, .slice none 0 0] :: box b3 25 [.slice A2 d.sec.length c2, .slice B2 d.pen.length k2, .int .i64 d.left, .bool d.stop] :: box b2 29 [.int .i64 j.many, .int .i64 (S : Int), .slice A j.rcs.length c] :: ([] ++ F)⟩)
    (fun y => y.1 ≤ T.length ∧ Mem.le M1 y.2.1 ∧ RDisk y.2.1 (.agg #[.slice y.2.2.1 d.sec.length y.2.2.2.1, .slice y.2.2.2.2.1 (d.pen ++ wrsAll g a0 (T.take y.1)).length y.2.2.2.2.2, .int .i64 d.left, .bool d.stop]) (dAfter d (wrsAll g a0 (T.take y.1)))) (fun y => T.length - y.1) (0, M1, A2, c2, B2, k2) ⟨Nat.zero_le _, Mem.le.refl _, ?_⟩ ?_ (fun y hy => ?_)
  · simp only [List.take_zero, wrsAll, List.append_nil, dAfter]
    exact hD.mono hm1
  · simp only [List.take_zero, wrsAll, List.append_nil, occs, List.map_nil, List.sum_nil, Nat.add_zero]
    exact (holds_sub (by repeat (first | exact SubFr.nil | refine SubFr.cons rfl ?_)) (by repeat (first | exact DropL.refl | apply DropL.skip)))
  obtain ⟨i, M2, A4, c4, B4, k4⟩ := y
  obtain ⟨hi2, hm2, hD2⟩ := hy
  simp only at hi2 hm2 hD2
  dsimp only
  by_cases hlt : i < T.length
  · obtain ⟨x, hx⟩ := get_of_lt hlt
    obtain ⟨hA, ch, hat, A5, k5', rfl, hxb⟩ := (hsub.mono RSec.mono hm2).elem hx
    have hst := occs_take hx
    have hle := occs_le T (i + 1)
    have htk : T.take (i + 1) = T.take i ++ [x] := by rw [List.take_add_one, hx]; rfl
    have hru : runs (dAfter d (wrsAll g a0 (T.take i))) := wrsAll_runs ⟨hok, hst'⟩ (by omega) hpen
    have hpl : (dAfter d (wrsAll g a0 (T.take i))).pen.length = occs (T.take i) := by
      show (d.pen ++ _).length = _
      rw [hpen, List.nil_append, wrsAll_length]
    have hput := put_fn M2 _ (dAfter d (wrsAll g a0 (T.take i))) (a0 + occs (T.take i)) g A5 k5' x hD2 hru hxb (by show _ ≤ d.sec.length; omega) (by rw [hpl]; have := hok.2.1; omega) (by omega)
    have hnew : dAfter (dAfter d (wrsAll g a0 (T.take i))) (wrs g (a0 + occs (T.take i)) x) = dAfter d (wrsAll g a0 (T.take (i + 1))) := by
      rw [htk, wrsAll_snoc]
      simp only [dAfter, List.append_assoc]
    rw [hnew, Nat.add_assoc, ← hst] at hput
    repeat (first | ((with_reducible refine Tr.step rfl ?_); (first | ((with_reducible refine Knd.move ?_); (refine Exec.stab rfl (Stab.move rfl) rfl ?_)) | ((with_reducible refine Knd.assign ?_); (refine Exec.stab rfl (Stab.assign rfl) rfl ?_)) | ((with_reducible refine Knd.load ?_); (first | (refine Exec.stab rfl (Stab.loadW rfl (tysOk.get rfl) rfl (by repeat (first | exact Has.here | apply Has.there)) rfl) rfl ?_) | (refine Exec.stab rfl (Stab.loadM rfl (tysOk.get rfl) rfl (by assumption)) rfl ?_))) | ((with_reducible refine Knd.binOp ?_); ((refine Exec.stab rfl (Stab.int rfl rfl rfl) rfl ?_))) | ((with_reducible refine Knd.indexAddr ?_); ((refine Exec.stab rfl (Stab.indexAddr rfl rfl (tysOk.get rfl) rfl (tysOk.get rfl) rfl (by omega) (by omega) (by first | rfl | assumption)) rfl ?_))))) | (with_reducible refine Tr.next ?_) | (with_reducible refine Tr.seq ?_) | (with_reducible refine Tr.region ?_) | (with_reducible refine Tr.nil ?_) | (with_reducible refine Tr.skip ?_) | (with_reducible refine Tr.block ?_) | (refine Tr.cond_t rfl (by first | (with_reducible assumption) | (with_reducible rfl) | (with_reducible exact (not_not_intro rfl)) | omega) ?_))
    ((refine Tr.step rfl ?_)); refine Exec.call0 rfl (hput) rfl ?_
    rintro _ M3 hm3 ⟨v', rfl, hD3⟩
    obtain ⟨A6, c6, B6, k6, rfl, h61, h62⟩ := id hD3
    repeat (first | ((with_reducible refine Tr.step rfl ?_); (first | ((with_reducible refine Knd.move ?_); (refine Exec.stab rfl (Stab.move rfl) rfl ?_)) | ((with_reducible refine Knd.assign ?_); (refine Exec.stab rfl (Stab.assign rfl) rfl ?_)) | ((with_reducible refine Knd.binOp ?_); (first | (refine Exec.stab rfl (Stab.addi rfl rfl (by omega)) rfl ?_) | (refine Exec.stab rfl (Stab.int rfl rfl rfl) rfl ?_))) | ((with_reducible refine Knd.store ?_); ((refine Exec.storeW rfl rfl (tysOk.get rfl) (by repeat (first | exact Upd.here | apply Upd.there)) rfl rfl (by repeat (first | exact AllOne.nil | refine AllOne.cons (by first | rfl | assumption) ?_)) ?_))) | ((with_reducible refine Knd.extract ?_); (refine Exec.stab rfl (Stab.extract rfl rfl) rfl ?_)))) | (with_reducible refine Tr.next ?_) | (with_reducible refine Tr.seq ?_) | (with_reducible refine Tr.region ?_) | (with_reducible refine Tr.nil ?_) | (with_reducible refine Tr.skip ?_) | (with_reducible refine Tr.in_normal ?_) | (refine Tr.cond_f rfl (by first | (with_reducible assumption) | (with_reducible rfl) | (with_reducible exact (not_not_intro rfl)) | omega) ?_))
    refine Tr.again (i + 1, M3, A6, c6, B6, k6) ⟨by simp only; omega, hm2.trans hm3, hD3⟩ (by simp only; omega) (holds_sub (by repeat (first | exact SubFr.nil | refine SubFr.cons rfl ?_)) (by repeat (first | exact DropL.refl | apply DropL.skip)))
  have e : i = T.length := by omega
  subst e
  rw [List.take_length] at hD2 ⊢
  have hsy := sync_fn M2 _ _ hD2
  generalize hs : syncF (dAfter d (wrsAll g a0 T)) = s at hsy
  repeat (first | ((with_reducible refine Tr.step rfl ?_); (first | ((with_reducible refine Knd.load ?_); ((refine Exec.stab rfl (Stab.loadW rfl (tysOk.get rfl) rfl (by repeat (first | exact Has.here | apply Has.there)) rfl) rfl ?_))) | ((with_reducible refine Knd.binOp ?_); ((refine Exec.stab rfl (Stab.int rfl rfl rfl) rfl ?_))))) | (with_reducible refine Tr.next ?_) | (with_reducible refine Tr.seq ?_) | (with_reducible refine Tr.region ?_) | (with_reducible refine Tr.nil ?_) | (with_reducible refine Tr.exit ?_) | (with_reducible refine Tr.then_exit ?_) | ((with_reducible refine Tr.in_exit ?_ ?_); (exact rfl)) | (refine Tr.cond_f rfl (by first | (with_reducible assumption) | (with_reducible rfl) | (with_reducible exact (not_not_intro rfl)) | omega) ?_))
  ((refine Tr.step rfl ?_)); refine Exec.call0 rfl (hsy) rfl ?_
  rintro _ M3 hm3 ⟨v', rfl, hD3⟩
  obtain ⟨A6, c6, B6, k6, rfl, h61, h62⟩ := id hD3
  have hm13 := hm1.trans (hm2.trans hm3)
  have hfin : ∀ q, syncJ j d = q ↔ (if s.2 = 0 then ((⟨j.many, (j.rcs.length : Int), j.rcs⟩ : Jr), s.1, (0 : Int)) else (zJ, s.1, s.2)) = q := fun q => by
    rw [syncJ, if_pos hk, if_pos hi, if_pos (by rw [hT]; exact hrec), hgg, if_pos hg, if_neg (by rw [hS]; exact hSe), hT, ha0, hTT, hs]
  by_cases hs2 : s.2 = 0
  · rw [hs2]
    repeat (first | ((with_reducible refine Tr.step rfl ?_); (first | ((with_reducible refine Knd.move ?_); (refine Exec.stab rfl (Stab.move rfl) rfl ?_)) | ((with_reducible refine Knd.assign ?_); (refine Exec.stab rfl (Stab.assign rfl) rfl ?_)) | ((with_reducible refine Knd.load ?_); (first | (refine Exec.stab rfl (Stab.load rfl (tysOk.get rfl) rfl (by repeat (first | exact Has.here | apply Has.there)) rfl) rfl ?_) | (refine Exec.stab rfl (Stab.loadW rfl (tysOk.get rfl) rfl (by repeat (first | exact Has.here | apply Has.there)) rfl) rfl ?_))) | ((with_reducible refine Knd.fieldAddr ?_); ((refine Exec.stab rfl (Stab.fieldZ rfl (tysOk.get rfl) rfl rfl (tysOk.get rfl) rfl) rfl ?_))) | ((with_reducible refine Knd.len ?_); ((refine Exec.stab rfl (Stab.len rfl (tysOk.get rfl) rfl) rfl ?_))) | ((with_reducible refine Knd.binOp ?_); ((refine Exec.stab rfl (Stab.int rfl rfl rfl) rfl ?_))) | ((with_reducible refine Knd.store ?_); (first | (refine Exec.store rfl rfl (tysOk.get rfl) rfl (by first | rfl | assumption) (by repeat (first | exact Upd.here | apply Upd.there)) (by repeat (first | exact SetL.z | apply SetL.s)) ?_) | (refine Exec.storeW rfl rfl (tysOk.get rfl) (by repeat (first | exact Upd.here | apply Upd.there)) rfl rfl (by repeat (first | exact AllOne.nil | refine AllOne.cons (by first | rfl | assumption) ?_)) ?_))) | ((with_reducible refine Knd.extract ?_); (refine Exec.stab rfl (Stab.extract rfl rfl) rfl ?_)))) | (with_reducible refine Tr.next ?_) | (with_reducible refine Tr.seq ?_) | (with_reducible refine Tr.region ?_) | (with_reducible refine Tr.nil ?_) | (with_reducible refine Tr.skip ?_) | (refine Tr.cond_f rfl (by first | (with_reducible assumption) | (with_reducible rfl) | (with_reducible exact (not_not_intro rfl)) | omega) ?_))
    (((apply Tr.draw); (kernel_rfl)); (refine TrA.take 0 (by kernel_rfl) rfl (by kernel_rfl) (by first | exact fun _ _ _ h => h | exact fun _ _ _ h => nomatch h.1) (by exact fun _ h => h) rfl (by exact Stab.loadW rfl (tysOk.get rfl) rfl (by repeat (first | exact Has.here | apply Has.there)) rfl) rfl rfl ?_); (refine TrA.take 1 (by kernel_rfl) rfl (by kernel_rfl) (by first | exact fun _ _ _ h => h | exact fun _ _ _ h => nomatch h.1) (by exact fun _ h => h) rfl (by exact Stab.loadW rfl (tysOk.get rfl) rfl (by repeat (first | exact Has.here | apply Has.there)) rfl) rfl rfl ?_); (refine TrA.eff 2 rfl (by kernel_rfl) (by first | exact .inl rfl | exact .inr ⟨_, _, _, rfl, rfl, rfl⟩) ?_); (((refine Knd.store ?_); ((refine Exec.storeW rfl rfl (tysOk.get rfl) (by repeat (first | exact Upd.here | apply Upd.there)) rfl rfl (by repeat (first | exact AllOne.nil | refine AllOne.cons (by first | rfl | assumption) ?_)) ?_)))); (refine ⟨(by first | exact Mem.le.refl _ | assumption), (by exact fun _ h => h), ?_⟩); (refine TrA.eff 3 rfl (by kernel_rfl) (by first | exact .inl rfl | exact .inr ⟨_, _, _, rfl, rfl, rfl⟩) ?_); (((refine Knd.store ?_); ((refine Exec.storeW rfl rfl (tysOk.get rfl) (by repeat (first | exact Upd.here | apply Upd.there)) rfl rfl (by repeat (first | exact AllOne.nil | refine AllOne.cons (by first | rfl | assumption) ?_)) ?_)))); (refine ⟨(by first | exact Mem.le.refl _ | assumption), (by exact fun _ h => h), ?_⟩); (refine TrA.take 4 (by kernel_rfl) rfl (by kernel_rfl) (by first | exact fun _ _ _ h => h | exact fun _ _ _ h => nomatch h.1) (by exact fun _ h => h) rfl (by first | exact Stab.assign rfl) rfl rfl ?_); (refine TrA.done (by kernel_rfl) ?_))
    repeat (first | (with_reducible refine Tr.next ?_) | (with_reducible refine Tr.ret ?_))
    (refine Tr.done (by first | exact .inl rfl | exact .inr rfl) rfl (by repeat (first | exact RVs.nil | (apply RVs.cons; (first | exact RV.tmp rfl | exact RV.cellW (by rfl) (tysOk.get (by rfl)) (by rfl) (by repeat (first | exact Has.here | apply Has.there)) (by first | rfl | assumption))))) (by first | exact Mem.le.refl _ | assumption) (by exact ⟨[_, _, _, _], rfl⟩) ⟨rfl, ?_⟩)
    rw [(hfin _).2 (if_pos hs2)]
    exact ⟨_, _, rfl, ⟨A, c, rfl, h1.mono RSec.mono hm13⟩, hD3⟩
  · repeat (first | ((with_reducible refine Tr.step rfl ?_); (first | ((with_reducible refine Knd.move ?_); (refine Exec.stab rfl (Stab.move rfl) rfl ?_)) | ((with_reducible refine Knd.assign ?_); (refine Exec.stab rfl (Stab.assign rfl) rfl ?_)) | ((with_reducible refine Knd.binOp ?_); ((refine Exec.stab rfl (Stab.int rfl rfl rfl) rfl ?_))) | ((with_reducible refine Knd.store ?_); ((refine Exec.storeW rfl rfl (tysOk.get rfl) (by repeat (first | exact Upd.here | apply Upd.there)) rfl rfl (by repeat (first | exact AllOne.nil | refine AllOne.cons (by first | rfl | assumption) ?_)) ?_))) | ((with_reducible refine Knd.extract ?_); (refine Exec.stab rfl (Stab.extract rfl rfl) rfl ?_)))) | (with_reducible refine Tr.next ?_) | (with_reducible refine Tr.seq ?_) | (with_reducible refine Tr.region ?_) | (with_reducible refine Tr.nil ?_) | (refine Tr.cond_t rfl (by first | (with_reducible assumption) | (with_reducible rfl) | (with_reducible exact (not_not_intro rfl)) | omega) ?_))
    (((apply Tr.draw); (kernel_rfl)); (refine TrA.take 0 (by kernel_rfl) rfl (by kernel_rfl) (by first | exact fun _ _ _ h => h | exact fun _ _ _ h => nomatch h.1) (by exact fun _ h => h) rfl (by exact Stab.build tysOk rfl rfl rfl rfl (by repeat (exact BuildP.nil))) rfl rfl ?_); (refine TrA.take 1 (by kernel_rfl) rfl (by kernel_rfl) (by first | exact fun _ _ _ h => h | exact fun _ _ _ h => nomatch h.1) (by exact fun _ h => h) rfl (by exact Stab.loadW rfl (tysOk.get rfl) rfl (by repeat (first | exact Has.here | apply Has.there)) rfl) rfl rfl ?_); (refine TrA.take 2 (by kernel_rfl) rfl (by kernel_rfl) (by first | exact fun _ _ _ h => h | exact fun _ _ _ h => nomatch h.1) (by exact fun _ h => h) rfl (by first | exact Stab.move rfl) rfl rfl ?_); (refine TrA.eff 3 rfl (by kernel_rfl) (by first | exact .inl rfl | exact .inr ⟨_, _, _, rfl, rfl, rfl⟩) ?_); (((refine Knd.store ?_); ((refine Exec.storeW rfl rfl (tysOk.get rfl) (by repeat (first | exact Upd.here | apply Upd.there)) rfl rfl (by repeat (first | exact AllOne.nil | refine AllOne.cons (by first | rfl | assumption) ?_)) ?_)))); (refine ⟨(by first | exact Mem.le.refl _ | assumption), (by exact fun _ h => h), ?_⟩); (refine TrA.eff 4 rfl (by kernel_rfl) (by first | exact .inl rfl | exact .inr ⟨_, _, _, rfl, rfl, rfl⟩) ?_); (((refine Knd.store ?_); ((refine Exec.storeW rfl rfl (tysOk.get rfl) (by repeat (first | exact Upd.here | apply Upd.there)) rfl rfl (by repeat (first | exact AllOne.nil | refine AllOne.cons (by first | rfl | assumption) ?_)) ?_)))); (refine ⟨(by first | exact Mem.le.refl _ | assumption), (by exact fun _ h => h), ?_⟩); (refine TrA.take 5 (by kernel_rfl) rfl (by kernel_rfl) (by first | exact fun _ _ _ h => h | exact fun _ _ _ h => nomatch h.1) (by exact fun _ h => h) rfl (by first | exact Stab.assign rfl) rfl rfl ?_); (refine TrA.done (by kernel_rfl) ?_))
    repeat (first | (with_reducible refine Tr.next ?_) | (with_reducible refine Tr.ret ?_) | (with_reducible refine Tr.then_ret ?_))
    (refine Tr.done (by first | exact .inl rfl | exact .inr rfl) rfl (by repeat (first | exact RVs.nil | (apply RVs.cons; (first | exact RV.tmp rfl | exact RV.cellW (by rfl) (tysOk.get (by rfl)) (by rfl) (by repeat (first | exact Has.here | apply Has.there)) (by first | rfl | assumption))))) (by first | exact Mem.le.refl _ | assumption) (by exact ⟨[_, _, _, _], rfl⟩) ⟨rfl, ?_⟩)
    rw [(hfin _).2 (if_neg hs2)]
    exact ⟨_, _, rfl, RJr.zero _, hD3⟩
end Go.Proofs.Ytkbggengagockaa
/-
  The journal, plain: what was written is read.
  Conditions: none.
-/
namespace Go.Proofs.Ytkbggengagockaa
open Go Bf
/-! a sector that was built -/
section
variable {g n : Nat} {f : UInt8} {p : List UInt8}
theorem gen_bF (hg : g < 4294967296) : gen (bF g n f p) = g := by
  have : (bF g n f p).take 4 = be4 g := rfl
  rw [gen, this, be_be4 hg]
theorem bF_drop8 : (bF g n f p).drop 8 = bodyF n f p ++ be4 g := rfl
theorem body_bF (hl : p.length ≤ 112) : body (bF g n f p) = bodyF n f p := by
  rw [body, bF_drop8, List.take_left' (bodyF_length hl)]
theorem tail_bF (hl : p.length ≤ 112) : (bF g n f p).drop 124 = be4 g := by
  have : (bF g n f p).drop 124 = ((bF g n f p).drop 8).drop 116 := by rw [List.drop_drop]
  rw [this, bF_drop8, List.drop_left' (bodyF_length hl)]
theorem sum_bF : ((bF g n f p).drop 4).take 4 = be4 (crc (bodyF n f p)).toNat := rfl
theorem num_bF (hn : n < 65536) : num (bF g n f p) = n := by
  have h1 : (bF g n f p).getD 8 0 = UInt8.ofNat (n / 256) := rfl
  have h2 : (bF g n f p).getD 9 0 = UInt8.ofNat n := rfl
  rw [num, h1, h2]
  simp only [UInt8.toNat_ofNat']
  omega
theorem kind_bF : kind (bF g n f p) = f := rfl
theorem many_bF (hl : p.length ≤ 112) : many (bF g n f p) = p.length := by
  have h1 : (bF g n f p).getD 11 0 = UInt8.ofNat p.length := rfl
  rw [many, h1]
  simp only [UInt8.toNat_ofNat']
  omega
theorem bF_drop12 : (bF g n f p).drop 12 = p ++ List.replicate (112 - p.length) 0 ++ be4 g := rfl
theorem dat_bF (hl : p.length ≤ 112) : dat (bF g n f p) = p := by
  rw [dat, many_bF hl, bF_drop12, Nat.add_sub_cancel_left, List.append_assoc, List.take_left' rfl]
theorem rest_bF (hl : p.length ≤ 112) : rest (bF g n f p) = List.replicate (112 - p.length) 0 := by
  rw [rest, many_bF hl, ← List.drop_drop, bF_drop12, List.append_assoc, List.drop_left' rfl, List.take_left' (by rw [List.length_replicate]; omega)]
theorem good_bF (hl : p.length ≤ 112) (hg0 : g ≠ 0) (hg : g < 4294967296) (hn : n < 65536) (hf : f.toNat ≤ 3) (h1 : f.toNat < 2 → p.length = 112) (h2 : f.toNat % 2 = 0 → p.length ≠ 0) : goodS (bF g n f p) n := by
  refine ⟨by rw [gen_bF hg]; exact hg0, by rw [gen_bF hg, tail_bF hl, be_be4 hg], num_bF hn, hf, by rw [many_bF hl]; exact hl, ?_, fun x hx => ?_, fun h => ?_, fun h => ?_⟩
  · rw [body_bF hl, sum_bF, be_be4 (crc _).toNat_lt]
  · rw [rest_bF hl] at hx
    exact List.eq_of_mem_replicate hx
  · rw [many_bF hl, kind_bF] at h
    exact h.2 (h1 h.1)
  · rw [many_bF hl, kind_bF] at h
    exact h2 h.1 h.2
end
/-! the sectors of a record -/
theorem flg_toNat (i n : Nat) : (flg i n).toNat = (if i = 0 then 1 else 0) + (if i + 1 = n then 2 else 0) := by
  unfold flg
  split <;> split <;> rfl
def secsFrom (g at_ : Nat) (p : List UInt8) (i n : Nat) : List (List UInt8) := (List.range' i n).map fun j => bF g (at_ + j) (flg j (occ p.length)) (piece p j)
theorem secsFrom_length (g at_ : Nat) (p : List UInt8) (i n : Nat) : (secsFrom g at_ p i n).length = n := by simp [secsFrom]
theorem begs_bF {g n : Nat} {p : List UInt8} {i m : Nat} : begs (bF g n (flg i m) p) = decide (i = 0) := by
  rw [begs, kind_bF, flg_toNat]
  apply decide_eq_decide.2
  split <;> split <;> omega
theorem ends_bF {g n : Nat} {p : List UInt8} {i m : Nat} : ends (bF g n (flg i m) p) = decide (i + 1 = m) := by
  rw [ends, kind_bF, flg_toNat]
  apply decide_eq_decide.2
  split <;> split <;> omega
theorem read_from {g at_ : Nat} {p : List UInt8} (hg0 : g ≠ 0) (hg : g < 4294967296) (hat : at_ + occ p.length ≤ 65536) (X : List (List UInt8)) :
    ∀ (n i : Nat), i + n = occ p.length → 0 < n → readR g (secsFrom g at_ p i n ++ X) (at_ + i) (decide (i = 0)) = some (p.drop (112 * i), at_ + occ p.length)
  | 0, _, _, h => absurd h (by omega)
  | n + 1, i, hin, _ => by
    have hpl := piece_length p i
    have hple := piece_le p i
    have hocc : occ p.length = max 1 ((p.length + 111) / 112) := rfl
    rw [secsFrom, List.range'_succ, List.map_cons, List.cons_append, readR]
    have hgood : goodS (bF g (at_ + i) (flg i (occ p.length)) (piece p i)) (at_ + i) := by
      refine good_bF hple hg0 hg (by omega) (by rw [flg_toNat]; split <;> split <;> omega) (fun h => ?_) (fun h => ?_)
      · rw [flg_toNat] at h
        have : ¬ i + 1 = occ p.length := fun e => by rw [if_pos e] at h; omega
        omega
      · rw [flg_toNat] at h
        have : ¬ i = 0 := fun e => by rw [if_pos e] at h; split at h <;> omega
        omega
    rw [if_pos ⟨hgood, gen_bF hg, begs_bF⟩, ends_bF, dat_bF hple]
    by_cases hend : i + 1 = occ p.length
    · rw [decide_eq_true hend, if_pos rfl]
      congr 2
      · rw [piece, List.take_of_length_le]
        rw [List.length_drop]
        omega
      · omega
    · rw [decide_eq_false hend, if_neg (by decide)]
      have ih := read_from hg0 hg hat X n (i + 1) (by omega) (by omega)
      rw [show decide (i + 1 = 0) = false from rfl] at ih
      rw [show at_ + i + 1 = at_ + (i + 1) by omega]
      rw [show (List.map (fun j => bF g (at_ + j) (flg j (occ p.length)) (piece p j)) (List.range' (i + 1) n)) = secsFrom g at_ p (i + 1) n from rfl, ih, Option.map_some]
      congr 2
      rw [piece, show 112 * (i + 1) = 112 * i + 112 by omega, ← List.drop_drop, List.take_append_drop]
/-- the sectors of a record -/
def secs (g at_ : Nat) (p : List UInt8) : List (List UInt8) := secsFrom g at_ p 0 (occ p.length)
theorem secs_length (g at_ : Nat) (p : List UInt8) : (secs g at_ p).length = occ p.length := secsFrom_length _ _ _ _ _
theorem read_secs {g at_ : Nat} {p : List UInt8} (hg0 : g ≠ 0) (hg : g < 4294967296) (hat : at_ + occ p.length ≤ 65536) (X : List (List UInt8)) : readR g (secs g at_ p ++ X) at_ true = some (p, at_ + occ p.length) := by
  have := read_from hg0 hg hat X (occ p.length) 0 (by omega) (occ_pos _)
  rw [Nat.mul_zero, List.drop_zero, Nat.add_zero] at this
  exact this
/-! the records, without fuel -/
theorem recsF_fuel : ∀ (f : Nat) (l : List (List UInt8)) (a b : Nat), l.length ≤ f → recsF f l a b = recsF l.length l a b := by
  intro f
  induction f using Nat.strongRecOn with
  | _ f ih =>
    intro l a b h
    match f, l, h with
    | 0, [], _ => rfl
    | f + 1, [], _ => rfl
    | f + 1, s :: t, h =>
      rw [List.length_cons, recsF, recsF]
      split
      · rfl
      · split
        · rfl
        · rename_i r k hr
          have hgt := readR_gt hr
          rw [List.length_cons] at h
          have e : ((s :: t).drop (k - a)).length ≤ t.length := by
            rw [List.length_drop, List.length_cons]; omega
          rw [ih f (by omega) _ _ _ (by omega)]
          by_cases ht : t.length < f + 1
          · rw [← ih t.length ht _ _ _ e]
          · omega
def recsL (l : List (List UInt8)) (a b : Nat) : List (List UInt8) := recsF l.length l a b
theorem recs_eq (l : List (List UInt8)) : recs l = recsL l 0 0 := rfl
theorem recsL_nil (a b : Nat) : recsL [] a b = [] := rfl
theorem recsL_cons (s : List UInt8) (t : List (List UInt8)) (a b : Nat) : recsL (s :: t) a b = if gen s < b then [] else
    match readR (gen s) (s :: t) a true with
    | none => []
    | some (r, k) => r :: recsL ((s :: t).drop (k - a)) k (gen s) := by
  rw [recsL, List.length_cons, recsF]
  by_cases h : gen s < b
  · rw [if_pos h, if_pos h]
  · rw [if_neg h, if_neg h]
    cases hr : readR (gen s) (s :: t) a true with
    | none => rfl
    | some q =>
      obtain ⟨r, k⟩ := q
      have hgt := readR_gt hr
      simp only
      rw [recsF_fuel t.length _ _ _ (by rw [List.length_drop, List.length_cons]; rw [List.length_cons] at hgt; omega)]
      rfl
theorem recsL_low {X : List (List UInt8)} {a g : Nat} (h : ∀ s ∈ X, gen s < g) : recsL X a g = [] := by
  cases X with
  | nil => rfl
  | cons s t => rw [recsL_cons, if_pos (h s List.mem_cons_self)]
theorem secs_cons (g at_ : Nat) (p : List UInt8) : ∃ t, secs g at_ p = bF g at_ (flg 0 (occ p.length)) (piece p 0) :: t := by
  obtain ⟨n, hn⟩ : ∃ n, occ p.length = n + 1 := ⟨occ p.length - 1, by have := occ_pos p.length; omega⟩
  exact ⟨secsFrom g at_ p 1 n, by rw [secs, secsFrom, hn, List.range'_succ, List.map_cons, secsFrom, hn]; rfl⟩
theorem recsL_secs {g at_ least : Nat} {p : List UInt8} (hg0 : g ≠ 0) (hg : g < 4294967296) (hat : at_ + occ p.length ≤ 65536) (hle : least ≤ g) (X : List (List UInt8)) :
    recsL (secs g at_ p ++ X) at_ least = p :: recsL X (at_ + occ p.length) g := by
  have hr := read_secs hg0 hg hat X
  have hl := secs_length g at_ p
  obtain ⟨t, ht⟩ := secs_cons g at_ p
  rw [ht] at hr hl ⊢
  rw [List.cons_append] at hr ⊢
  rw [recsL_cons, gen_bF hg, if_neg (by omega), hr]
  simp only
  congr 2
  rw [Nat.add_sub_cancel_left, ← List.cons_append, List.drop_left' hl]
/-- the sectors of records, one after the other -/
def secsAll (g : Nat) : Nat → List (List UInt8) → List (List UInt8)
  | _, [] => []
  | at_, b :: l => secs g at_ b ++ secsAll g (at_ + occ b.length) l
theorem secsAll_length (g : Nat) : ∀ (l : List (List UInt8)) (at_ : Nat), (secsAll g at_ l).length = occs l
  | [], _ => rfl
  | b :: l, at_ => by rw [secsAll, List.length_append, secs_length, secsAll_length g l]; simp [occs]
theorem occs_cons (b : List UInt8) (l : List (List UInt8)) : occs (b :: l) = occ b.length + occs l := by simp [occs]
theorem recsL_all {g : Nat} (hg0 : g ≠ 0) (hg : g < 4294967296) (X : List (List UInt8)) : ∀ (l : List (List UInt8)) (at_ least : Nat), at_ + occs l ≤ 65536 → least ≤ g →
    recsL (secsAll g at_ l ++ X) at_ least = l ++ recsL X (at_ + occs l) (if l = [] then least else g)
  | [], at_, least, _, _ => by simp [secsAll, occs]
  | b :: l, at_, least, h, hle => by
    rw [occs_cons] at h ⊢
    rw [secsAll, List.append_assoc, recsL_secs hg0 hg (by omega) hle, recsL_all hg0 hg X l _ _ (by omega) (Nat.le_refl _), List.cons_append, Nat.add_assoc, if_neg (List.cons_ne_nil _ _)]
    congr 3
    split <;> rfl
end Go.Proofs.Ytkbggengagockaa
/-
  The journal, plain: what a sync leaves is read.
  Conditions: none.
-/
namespace Go.Proofs.Ytkbggengagockaa
open Go Bf
theorem readR_occ {g : Nat} : ∀ {l : List (List UInt8)} {k : Nat} {first : Bool} {b : List UInt8} {m : Nat}, (∀ s ∈ l, s.length = 128) → readR g l k first = some (b, m) →
    (first = true → m = k + occ b.length) ∧ (first = false → 1 ≤ b.length ∧ m = k + (b.length + 111) / 112)
  | [], _, _, _, _, _, h => by cases h
  | s :: t, k, first, b, m, h128, h => by
    have hs := h128 s List.mem_cons_self
    rw [readR] at h
    split at h
    · rename_i hc
      obtain ⟨hg, -, hb⟩ := hc
      have hm := hg.2.2.2.2.1
      have hdl := dat_length hs hm
      have hbeg : first = false → many s ≠ 0 := fun hf h0 => by
        rw [hf] at hb
        unfold begs at hb
        rw [decide_eq_false_iff_not] at hb
        exact hg.2.2.2.2.2.2.2.2 ⟨by omega, h0⟩
      split at h
      · simp only [Option.some.injEq, Prod.mk.injEq] at h
        obtain ⟨rfl, rfl⟩ := h
        rw [hdl]
        refine ⟨fun _ => ?_, fun hf => ?_⟩
        · unfold occ; omega
        · have := hbeg hf; omega
      · rename_i hne
        have h112 : many s = 112 := by
          have h1 := hg.2.2.2.2.2.2.2.1
          unfold ends at hne
          rw [decide_eq_true_eq] at hne
          by_cases e : many s = 112
          · exact e
          · exact absurd ⟨by omega, e⟩ h1
        cases h2 : readR g t (k + 1) false with
        | none => rw [h2] at h; cases h
        | some q =>
          obtain ⟨b2, m2⟩ := q
          rw [h2] at h
          simp only [Option.map_some, Option.some.injEq, Prod.mk.injEq] at h
          obtain ⟨rfl, rfl⟩ := h
          have ih := (readR_occ (fun x hx => h128 x (List.mem_cons_of_mem _ hx)) h2).2 rfl
          rw [List.length_append, hdl, h112]
          refine ⟨fun _ => ?_, fun _ => ?_⟩
          · unfold occ; omega
          · omega
    · cases h
theorem readR_take {g : Nat} : ∀ {l : List (List UInt8)} {k : Nat} {first : Bool} {b : List UInt8} {m : Nat}, readR g l k first = some (b, m) → ∀ X, readR g (l.take (m - k) ++ X) k first = some (b, m)
  | [], _, _, _, _, h, _ => by cases h
  | s :: t, k, first, b, m, h, X => by
    have hgt := readR_gt h
    obtain ⟨j, hj⟩ : ∃ j, m - k = j + 1 := ⟨m - k - 1, by omega⟩
    rw [hj, List.take_succ_cons, List.cons_append, readR]
    rw [readR] at h
    split at h
    · rename_i hc
      rw [if_pos hc]
      split at h
      · rename_i he
        rw [if_pos he]
        exact h
      · rename_i he
        rw [if_neg he]
        cases h2 : readR g t (k + 1) false with
        | none => rw [h2] at h; cases h
        | some q =>
          obtain ⟨b2, m2⟩ := q
          rw [h2] at h
          simp only [Option.map_some, Option.some.injEq, Prod.mk.injEq] at h
          obtain ⟨rfl, rfl⟩ := h
          have ih := readR_take h2 X
          rw [show m2 - (k + 1) = j by omega] at ih
          rw [ih]
          rfl
    · cases h
theorem recsL_prefix (G : Nat) : ∀ (n : Nat) (L : List (List UInt8)), L.length ≤ n → (∀ s ∈ L, s.length = 128) → (∀ s ∈ L, gen s ≤ G) → ∀ (a least : Nat), least ≤ G →
    occs (recsL L a least) ≤ L.length ∧ ∀ X, ∃ g0, g0 ≤ G ∧ recsL (L.take (occs (recsL L a least)) ++ X) a least = recsL L a least ++ recsL X (a + occs (recsL L a least)) g0 := by
  intro n
  induction n with
  | zero =>
    intro L hL _ _ a least hle
    have : L = [] := List.eq_nil_of_length_eq_zero (by omega)
    subst this
    rw [recsL_nil]
    exact ⟨by simp [occs], fun X => ⟨least, hle, by simp [occs]⟩⟩
  | succ n ih =>
    intro L hL h128 hG a least hle
    have hstop : recsL L a least = [] → occs (recsL L a least) ≤ L.length ∧ ∀ X, ∃ g0, g0 ≤ G ∧ recsL (L.take (occs (recsL L a least)) ++ X) a least = recsL L a least ++ recsL X (a + occs (recsL L a least)) g0 := fun e => by
      rw [e]
      exact ⟨by simp [occs], fun X => ⟨least, hle, by simp [occs]⟩⟩
    cases L with
    | nil => exact hstop rfl
    | cons s t =>
      by_cases hlow : gen s < least
      · exact hstop (by rw [recsL_cons, if_pos hlow])
      · cases hr : readR (gen s) (s :: t) a true with
        | none => exact hstop (by rw [recsL_cons, if_neg hlow, hr])
        | some q =>
          obtain ⟨r, k⟩ := q
          have hgt := readR_gt hr
          have hk := (readR_occ h128 hr).1 rfl
          have hoc := occ_pos r.length
          have e0 : recsL (s :: t) a least = r :: recsL ((s :: t).drop (k - a)) k (gen s) := by rw [recsL_cons, if_neg hlow, hr]
          have hkk : k - a = occ r.length := by omega
          rw [hkk] at e0
          have hdl : ((s :: t).drop (occ r.length)).length = (s :: t).length - occ r.length := List.length_drop
          obtain ⟨i1, i2⟩ := ih ((s :: t).drop (occ r.length)) (by omega) (fun x hx => h128 x (List.mem_of_mem_drop hx)) (fun x hx => hG x (List.mem_of_mem_drop hx)) k (gen s) (hG s List.mem_cons_self)
          generalize hR : recsL ((s :: t).drop (occ r.length)) k (gen s) = R' at e0 i1 i2
          rw [e0, occs_cons]
          refine ⟨by omega, fun X => ?_⟩
          obtain ⟨g0, hg0, hX⟩ := i2 X
          refine ⟨g0, hg0, ?_⟩
          have htake : (s :: t).take (occ r.length + occs R') ++ X = (s :: t).take (occ r.length) ++ (((s :: t).drop (occ r.length)).take (occs R') ++ X) := by
            rw [List.take_add, List.append_assoc]
          rw [htake]
          generalize ((s :: t).drop (occ r.length)).take (occs R') ++ X = Y at hX
          have hrt := readR_take hr Y
          rw [hkk] at hrt
          have htl : ((s :: t).take (occ r.length)).length = occ r.length := by rw [List.length_take]; omega
          obtain ⟨j, hj⟩ : ∃ j, occ r.length = j + 1 := ⟨occ r.length - 1, by omega⟩
          rw [hj, List.take_succ_cons] at hrt htl ⊢
          rw [List.cons_append] at hrt ⊢
          rw [recsL_cons, if_neg hlow, hrt]
          simp only
          rw [hkk, hj, ← List.cons_append, List.drop_left' htl, hX, List.cons_append, show a + (j + 1 + occs R') = k + occs R' by omega]
/-! the writes, performed -/
theorem perf_append (s : List (List UInt8)) (p q : List (Int × List UInt8)) : perf s (p ++ q) = perf (perf s p) q := by simp [perf, List.foldl_append]
theorem take_set_succ {α : Type} (D : List α) (k : Nat) (x : α) (h : k < D.length) : (D.set k x).take (k + 1) = D.take k ++ [x] := by
  rw [List.take_add_one, List.getElem?_set_self h, List.take_set_of_le (Nat.le_refl _)]; rfl
theorem drop_set_lt {α : Type} (D : List α) (k m : Nat) (x : α) (h : k < m) : (D.set k x).drop m = D.drop m := by
  rw [List.drop_set_of_lt h]
theorem perf_from (g at_ : Nat) (p : List UInt8) : ∀ (n i : Nat) (D : List (List UInt8)), at_ + i + n ≤ D.length →
    perf D ((List.range' i n).map (wr1 g at_ p)) = D.take (at_ + i) ++ secsFrom g at_ p i n ++ D.drop (at_ + i + n)
  | 0, i, D, _ => by simp [perf, secsFrom]
  | n + 1, i, D, h => by
    have ih := perf_from g at_ p n (i + 1) (D.set (at_ + i) (bF g (at_ + i) (flg i (occ p.length)) (piece p i))) (by rw [List.length_set]; omega)
    rw [List.range'_succ, List.map_cons]
    have e : perf D (wr1 g at_ p i :: (List.range' (i + 1) n).map (wr1 g at_ p)) = perf (D.set (at_ + i) (bF g (at_ + i) (flg i (occ p.length)) (piece p i))) ((List.range' (i + 1) n).map (wr1 g at_ p)) := by
      simp only [perf, List.foldl_cons, wr1]
      rw [Int.toNat_natCast]
    rw [e, ih, show at_ + (i + 1) = at_ + i + 1 by omega, take_set_succ _ _ _ (by omega), drop_set_lt _ _ _ _ (by omega), secsFrom, secsFrom, List.range'_succ, List.map_cons, show at_ + i + 1 + n = at_ + i + (n + 1) by omega]
    simp only [List.append_assoc, List.cons_append, List.nil_append]
theorem perf_wrs (g at_ : Nat) (p : List UInt8) (D : List (List UInt8)) (h : at_ + occ p.length ≤ D.length) : perf D (wrs g at_ p) = D.take at_ ++ secs g at_ p ++ D.drop (at_ + occ p.length) := by
  have := perf_from g at_ p (occ p.length) 0 D (by omega)
  rw [Nat.add_zero] at this
  rw [wrs, List.range_eq_range', secs]
  exact this
theorem perf_wrsAll (g : Nat) : ∀ (l : List (List UInt8)) (at_ : Nat) (D : List (List UInt8)), at_ + occs l ≤ D.length → perf D (wrsAll g at_ l) = D.take at_ ++ secsAll g at_ l ++ D.drop (at_ + occs l)
  | [], at_, D, _ => by simp [wrsAll, secsAll, occs, perf]
  | b :: l, at_, D, h => by
    rw [occs_cons] at h ⊢
    have hl : (D.take at_ ++ secs g at_ b).length = at_ + occ b.length := by rw [List.length_append, secs_length, List.length_take]; omega
    rw [wrsAll, perf_append, perf_wrs _ _ _ _ (by omega), perf_wrsAll g l _ _ (by rw [List.length_append, hl, List.length_drop]; omega), List.take_left' hl, secsAll]
    rw [show at_ + occ b.length + occs l = (at_ + occ b.length) + occs l from rfl, ← List.drop_drop, List.drop_left' hl, List.drop_drop]
    simp only [List.append_assoc, Nat.add_assoc]
/-! generations -/
theorem gmax_ge : ∀ (l : List (List UInt8)) (n : Nat), n ≤ l.foldl (fun g s => max (max g (gen s)) (be (s.drop 124))) n ∧ ∀ s ∈ l, gen s ≤ l.foldl (fun g s => max (max g (gen s)) (be (s.drop 124))) n
  | [], n => ⟨Nat.le_refl _, fun s h => by cases h⟩
  | x :: l, n => by
    rw [List.foldl_cons]
    have := gmax_ge l (max (max n (gen x)) (be (x.drop 124)))
    refine ⟨by omega, fun s hs => ?_⟩
    rcases List.mem_cons.1 hs with rfl | h
    · omega
    · exact this.2 s h
theorem gen_le_gmax {l : List (List UInt8)} {s : List UInt8} (h : s ∈ l) : gen s ≤ gmax l := (gmax_ge l 0).2 s h
theorem recs_occs {D : List (List UInt8)} (h128 : ∀ s ∈ D, s.length = 128) : occs (recs D) ≤ D.length :=
  (recsL_prefix (gmax D) D.length D (Nat.le_refl _) h128 (fun _ h => gen_le_gmax h) 0 0 (Nat.zero_le _)).1
/-- what is read behind the records of before -/
theorem recs_behind {D : List (List UInt8)} (h128 : ∀ s ∈ D, s.length = 128) (X : List (List UInt8)) : ∃ g0, g0 ≤ gmax D ∧ recs (D.take (occs (recs D)) ++ X) = recs D ++ recsL X (occs (recs D)) g0 := by
  obtain ⟨g0, h1, h2⟩ := (recsL_prefix (gmax D) D.length D (Nat.le_refl _) h128 (fun _ h => gen_le_gmax h) 0 0 (Nat.zero_le _)).2 X
  rw [Nat.zero_add] at h2
  exact ⟨g0, h1, h2⟩
theorem sync_reads {D T : List (List UInt8)} (h128 : ∀ s ∈ D, s.length = 128) (hT : occs (recs D) + occs T ≤ 65536) (hg : gmax D + 1 < 4294967296) :
    recs (D.take (occs (recs D)) ++ secsAll (gmax D + 1) (occs (recs D)) T ++ D.drop (occs (recs D) + occs T)) = recs D ++ T := by
  obtain ⟨g0, h1, h2⟩ := recs_behind h128 (secsAll (gmax D + 1) (occs (recs D)) T ++ D.drop (occs (recs D) + occs T))
  rw [List.append_assoc, h2]
  by_cases e : T = []
  · subst e
    obtain ⟨g1, h3, h4⟩ := recs_behind h128 (D.drop (occs (recs D)))
    have e2 : secsAll (gmax D + 1) (occs (recs D)) [] ++ D.drop (occs (recs D) + occs []) = D.drop (occs (recs D)) := by simp [secsAll, occs]
    rw [e2] at h2 ⊢
    rw [← h2, List.take_append_drop, List.append_nil]
  · rw [recsL_all (by omega) hg _ T _ _ hT (by omega), if_neg e, recsL_low, List.append_nil]
    intro s hs
    have := gen_le_gmax (List.mem_of_mem_drop hs)
    omega
end Go.Proofs.Ytkbggengagockaa
/-
  The disk: the contract of New.
  Conditions: none.
-/
namespace Go.Proofs.Ytkbggengagockaa
open Go Bf
attribute [local irreducible] Tr Exec Stab HasTy Go.Addr.add IntKind.wrap
def zsec : List UInt8 := List.replicate 128 0
def newF (n : Int) : Dsk × Int := if 1 ≤ n ∧ n ≤ 4096 then (⟨List.replicate n.toNat zsec, [], -1, false⟩, 0) else (zD, 1)

/-- the cells of a half made table of sectors -/
def Half (M : Mem) (n i : Nat) (cs : List Value) : Prop := cs.length = n ∧ (∀ u ∈ cs, u.oneCell' = true) ∧ ∀ j, j < i → ∃ A k, cs[j]? = some (.slice A 128 k) ∧ BSl M (.slice A 128 k) zsec
theorem Half.set {M M' : Mem} {n i : Nat} {cs : List Value} {A : Option Addr} {k : Nat} (h : Half M n i cs) (hi : i < n) (hm : Mem.le M M') (hb : BSl M' (.slice A 128 k) zsec) : Half M' n (i + 1) (cs.set i (.slice A 128 k)) := by
  obtain ⟨h1, h2, h3⟩ := h
  refine ⟨by simpa using h1, fun u hu => ?_, fun j hj => ?_⟩
  · rcases List.mem_or_eq_of_mem_set hu with h | rfl
    · exact h2 u h
    · rfl
  · by_cases e : j = i
    · subst e
      exact ⟨A, k, by rw [List.getElem?_set_self (by omega)], hb⟩
    · obtain ⟨A, k, h4, h5⟩ := h3 j (by omega)
      exact ⟨A, k, by rw [List.getElem?_set_ne (by omega)]; exact h4, h5.mono hm⟩
theorem Half.done {M : Mem} {n : Nat} {cs : List Value} {b t : Nat} (h : Half M n n cs) (hb : (box b t cs).ok M) (hn : n ≤ 9223372036854775807) : SlOf 1 RSec M (.slice (some ⟨b, 0, none⟩) n n) (List.replicate n zsec) := by
  obtain ⟨h1, h2, h3⟩ := h
  have hr := Row.of_box (n := n) (sz := 1) hb (by omega) (fun u hu => h2 u (List.mem_of_mem_take hu))
  have e : cs.take (n * 1) = cs := by rw [List.take_of_length_le]; omega
  rw [e] at hr
  have hs : SlOf 1 RSec M (.slice (some ⟨b, 0, none⟩) (List.replicate n zsec).length n) (List.replicate n zsec) := by
    refine ⟨_, _, cs, rfl, by simp, hn, fun h => (by cases h), by simpa using hr, fun i x hx => ?_⟩
    obtain ⟨hi, e⟩ := List.getElem?_eq_some_iff.1 hx
    simp at hi e
    subst e
    obtain ⟨A, k, h4, h5⟩ := h3 i hi
    refine ⟨A, k, ?_, h5⟩
    rw [List.getElem?_eq_some_iff] at h4
    obtain ⟨h6, h7⟩ := h4
    rw [Nat.mul_one, List.take_one, List.head?_drop, List.getElem?_eq_getElem h6, h7]; rfl
  simpa using hs

set_option maxHeartbeats 1000000 in
theorem new_fn (M : Mem) (n : Int) :
    Fn0 Try.prog 25 [.int .i64 n] M (fun r M' => RPair M' r (newF n)) := by
  refine Fn.intro Try.func25 rfl rfl Try.ntmps25 rfl fun E F => ?_
  by_cases hn : 1 ≤ n ∧ n ≤ 4096
  · obtain ⟨hn1, hn2⟩ := hn
    obtain ⟨m, rfl⟩ : ∃ m : Nat, n = (m : Int) := ⟨n.toNat, by omega⟩
    repeat (first | ((with_reducible refine Tr.step rfl ?_); (first | ((with_reducible refine Knd.move ?_); (refine Exec.stab rfl (Stab.move rfl) rfl ?_)) | ((with_reducible refine Knd.assign ?_); (refine Exec.stab rfl (Stab.assign rfl) rfl ?_)) | ((with_reducible refine Knd.load ?_); ((refine Exec.stab rfl (Stab.load rfl (tysOk.get rfl) rfl (by repeat (first | exact Has.here | apply Has.there)) rfl) rfl ?_))) | ((with_reducible refine Knd.fieldAddr ?_); ((refine Exec.stab rfl (Stab.fieldZ rfl (tysOk.get rfl) rfl rfl (tysOk.get rfl) rfl) rfl ?_))) | ((with_reducible refine Knd.len ?_); ((refine Exec.stab rfl (Stab.len rfl (tysOk.get rfl) rfl) rfl ?_))) | ((with_reducible refine Knd.binOp ?_); ((refine Exec.stab rfl (Stab.int rfl rfl rfl) rfl ?_))) | ((with_reducible refine Knd.pick ?_); ((refine Exec.stab rfl (Stab.pick_fd rfl (by first | (with_reducible assumption) | (with_reducible rfl) | (with_reducible exact (not_not_intro rfl)) | omega) rfl) rfl ?_))) | ((with_reducible refine Knd.store ?_); ((refine Exec.store rfl rfl (tysOk.get rfl) rfl (by first | rfl | assumption) (by repeat (first | exact Upd.here | apply Upd.there)) (by repeat (first | exact SetL.z | apply SetL.s)) ?_))) | ((with_reducible refine Knd.alloc ?_); (first | (refine Exec.alloc (tysOk.get rfl) rfl rfl (fun b => ?_)) | (refine Exec.alloc1 (tysOk.get rfl) rfl rfl rfl (fun b => ?_)))) | ((with_reducible refine Knd.makeSlice ?_); (refine Exec.make rfl rfl (tysOk.get rfl) rfl (tysOk.get rfl) rfl rfl rfl (by omega) (by omega) (by first | omega | (simp; done) | (simp; omega)) (by omega) rfl (fun b => ?_))))) | (with_reducible refine Tr.next ?_) | (with_reducible refine Tr.seq ?_) | (with_reducible refine Tr.region ?_) | (with_reducible refine Tr.nil ?_) | ((refine Tr.guard_y' rfl rfl rfl (by first | (with_reducible assumption) | (with_reducible rfl) | (with_reducible exact (not_not_intro rfl)) | omega) ?_); (first | ((with_reducible refine Knd.move ?_); (refine Exec.stab rfl (Stab.move rfl) rfl ?_)) | ((with_reducible refine Knd.binOp ?_); ((refine Exec.stab rfl (Stab.int rfl rfl rfl) rfl ?_))))) | (with_reducible refine Tr.skip ?_) | (with_reducible refine Tr.block ?_) | (refine Tr.cond_f rfl (by first | (with_reducible assumption) | (with_reducible rfl) | (with_reducible exact (not_not_intro rfl)) | omega) ?_))
    refine Tr.loop (α := Nat × Mem × List Value) (fun x => ⟨29, [(18, .int .i64 x.1), (17, .int .i64 m), (16, .slice (some ⟨_, 0, none⟩) m m), (2, .pointer (some ⟨_, 0, none⟩)), (3, .int .i64 0)], [], x.2.1, box _ 35 x.2.2 :: box _ 25 [.slice (some ⟨_, 0, none⟩) m m, .slice none 0 0, .int .i64 0, .bool false] :: _⟩) (fun x => x.1 ≤ m ∧ Mem.le M x.2.1 ∧ Half x.2.1 m x.1 x.2.2) (fun x => m - x.1) (0, M, List.replicate m (.slice none 0 0)) ⟨Nat.zero_le _, Mem.le.refl _, by simp, fun u hu => by rw [List.eq_of_mem_replicate hu]; rfl, fun j hj => absurd hj (Nat.not_lt_zero _)⟩ (holds_sub (by repeat (first | exact SubFr.nil | refine SubFr.cons rfl ?_)) (by repeat (first | exact DropL.refl | apply DropL.skip))) (fun x hi => ?_)
    obtain ⟨i, M1, cs⟩ := x
    obtain ⟨hi, hm1, hh⟩ := hi
    simp only at hi hm1 hh
    dsimp only
    have hl := hh.1
    by_cases hlt : i < m
    · repeat (first | ((with_reducible refine Tr.step rfl ?_); (first | ((with_reducible refine Knd.move ?_); (refine Exec.stab rfl (Stab.move rfl) rfl ?_)) | ((with_reducible refine Knd.assign ?_); (refine Exec.stab rfl (Stab.assign rfl) rfl ?_)) | ((with_reducible refine Knd.binOp ?_); ((refine Exec.stab rfl (Stab.int rfl rfl rfl) rfl ?_))))) | (with_reducible refine Tr.next ?_) | (with_reducible refine Tr.seq ?_) | (with_reducible refine Tr.region ?_) | (with_reducible refine Tr.nil ?_) | (with_reducible refine Tr.skip ?_) | (with_reducible refine Tr.block ?_) | (refine Tr.cond_t rfl (by first | (with_reducible assumption) | (with_reducible rfl) | (with_reducible exact (not_not_intro rfl)) | omega) ?_))
      (((apply Tr.draw); (kernel_rfl)); ((refine TrA.take 0 (by kernel_rfl) rfl (by kernel_rfl) (by first | exact fun _ _ _ h => h | exact fun _ _ _ h => nomatch h.1) (by exact fun _ h => h) rfl (by exact Stab.fieldZ rfl (tysOk.get rfl) rfl rfl (tysOk.get rfl) rfl) rfl rfl ?_)); ((refine TrA.take 1 (by kernel_rfl) rfl (by kernel_rfl) (by first | exact fun _ _ _ h => h | exact fun _ _ _ h => nomatch h.1) (by exact fun _ h => h) rfl (by exact Stab.load rfl (tysOk.get rfl) rfl (by repeat (first | exact Has.here | apply Has.there)) rfl) rfl rfl ?_)); ((refine TrA.take 2 (by kernel_rfl) rfl (by kernel_rfl) (by first | exact fun _ _ _ h => h | exact fun _ _ _ h => nomatch h.1) (by exact fun _ h => h) rfl (by exact Stab.move rfl) rfl rfl ?_)); (refine TrA.eff 3 rfl (by kernel_rfl) (by first | exact .inl rfl | exact .inr ⟨_, _, _, rfl, rfl, rfl⟩) ?_); (((refine Knd.makeSlice ?_); (refine Exec.make rfl rfl (tysOk.get rfl) rfl (tysOk.get rfl) rfl rfl rfl (by omega) (by omega) (by first | omega | (simp; done) | (simp; omega)) (by omega) rfl (fun b => ?_)))); (refine ⟨(by first | exact Mem.le.refl _ | assumption), (by exact (Sub.mem (by repeat (first | exact Sub.refl | apply Sub.cons)))), ?_⟩); ((refine TrA.take 4 (by kernel_rfl) rfl (by kernel_rfl) (by first | exact fun _ _ _ h => h | exact fun _ _ _ h => nomatch h.1) (by exact (Sub.mem (by repeat (first | exact Sub.refl | apply Sub.cons)))) rfl (by exact Stab.indexB0 rfl rfl (tysOk.get rfl) rfl (tysOk.get rfl) rfl (by omega) (by omega)) rfl rfl ?_)); (refine TrA.effD 5 rfl (by kernel_rfl) (by kernel_rfl) (by first | exact .inl rfl | exact .inr ⟨_, _, _, rfl, rfl, rfl⟩) ?_); (((refine Knd.store ?_); ((refine Exec.storeS rfl rfl (tysOk.get rfl) rfl (by first | rfl | assumption) (by repeat (first | exact Upd.here | apply Upd.there)) (by omega) ?_)))); (refine ⟨_, fun _ h => h, ?_⟩); (refine TrA.done (by kernel_rfl) ?_))
      repeat (first | ((with_reducible refine Tr.step rfl ?_); (first | ((with_reducible refine Knd.move ?_); (refine Exec.stab rfl (Stab.move rfl) rfl ?_)) | ((with_reducible refine Knd.binOp ?_); ((refine Exec.stab rfl (Stab.addi rfl rfl (by omega)) rfl ?_))))) | (with_reducible refine Tr.next ?_) | (with_reducible refine Tr.region ?_) | (with_reducible refine Tr.nil ?_) | (with_reducible refine Tr.in_normal ?_))
      refine Tr.publish Del.here (fun M2 hm2 hok => ?_)
      have hb : BSl M2 (.slice (some ⟨_, 0, none⟩) 128 128) zsec := BSl.of_box (bs := zsec) (by rw [byteV_replicate] at hok; exact hok) (by simp [zsec])
      refine Tr.again (i + 1, M2, _) ⟨by simp only; omega, hm1.trans hm2, hh.set hlt hm2 hb⟩ (by simp only; omega) (holds_sub (by repeat (first | exact SubFr.nil | refine SubFr.cons rfl ?_)) (by repeat (first | exact DropL.refl | apply DropL.skip)))
    · have e : i = m := by omega
      subst e
      repeat (first | ((with_reducible refine Tr.step rfl ?_); (first | ((with_reducible refine Knd.assign ?_); (refine Exec.stab rfl (Stab.assign rfl) rfl ?_)) | ((with_reducible refine Knd.load ?_); ((refine Exec.stab rfl (Stab.loadW rfl (tysOk.get rfl) rfl (by repeat (first | exact Has.here | apply Has.there)) rfl) rfl ?_))) | ((with_reducible refine Knd.fieldAddr ?_); ((refine Exec.stab rfl (Stab.fieldZ rfl (tysOk.get rfl) rfl rfl (tysOk.get rfl) rfl) rfl ?_))) | ((with_reducible refine Knd.binOp ?_); ((refine Exec.stab rfl (Stab.int rfl rfl rfl) rfl ?_))) | ((with_reducible refine Knd.store ?_); (first | (refine Exec.store rfl rfl (tysOk.get rfl) rfl (by first | rfl | assumption) (by repeat (first | exact Upd.here | apply Upd.there)) (by repeat (first | exact SetL.z | apply SetL.s)) ?_) | (refine Exec.storeW rfl rfl (tysOk.get rfl) (by repeat (first | exact Upd.here | apply Upd.there)) rfl rfl (by repeat (first | exact AllOne.nil | refine AllOne.cons (by first | rfl | assumption) ?_)) ?_))))) | (with_reducible refine Tr.next ?_) | (with_reducible refine Tr.seq ?_) | (with_reducible refine Tr.region ?_) | (with_reducible refine Tr.nil ?_) | (with_reducible refine Tr.exit ?_) | (with_reducible refine Tr.ret ?_) | (with_reducible refine Tr.then_exit ?_) | ((with_reducible refine Tr.in_exit ?_ ?_); (exact rfl)) | (refine Tr.cond_f rfl (by first | (with_reducible assumption) | (with_reducible rfl) | (with_reducible exact (not_not_intro rfl)) | omega) ?_))
      refine Tr.publish Del.here (fun M2 hm2 hok => ?_)
      have hm := hm1.trans hm2
      (refine Tr.done (by first | exact .inl rfl | exact .inr rfl) rfl (by repeat (first | exact RVs.nil | (apply RVs.cons; (first | exact RV.tmp rfl | exact RV.cellW (by rfl) (tysOk.get (by rfl)) (by rfl) (by repeat (first | exact Has.here | apply Has.there)) (by first | rfl | assumption))))) (by first | exact Mem.le.refl _ | assumption) (by exact ⟨[_], rfl⟩) ⟨rfl, ?_⟩)
      unfold newF
      rw [if_pos (by omega)]
      refine ⟨_, rfl, ?_⟩
      have hs := Half.done ⟨hh.1, hh.2.1, fun j hj => let ⟨A, k, h1, h2⟩ := hh.2.2 j hj; ⟨A, k, h1, h2.mono hm2⟩⟩ hok (by omega)
      have e : (i : Int).toNat = i := by omega
      have : ∀ A, SlOf 1 RSec M2 (.slice A (List.replicate (i : Int).toNat zsec).length i) (List.replicate (i : Int).toNat zsec) → RDisk M2 (.agg #[.slice A i i, .slice none 0 0, .int .i64 (-1), .bool false]) ⟨List.replicate (i : Int).toNat zsec, [], -1, false⟩ := fun A h => ⟨A, i, none, 0, by simp only [e, List.length_replicate]; rfl, h, SlOf.nil _ _ _⟩
      refine this _ ?_
      simp only [e, List.length_replicate]; exact hs
  · repeat' (first | ((with_reducible refine Tr.step rfl ?_); (first | ((with_reducible refine Knd.move ?_); (refine Exec.stab rfl (Stab.move rfl) rfl ?_)) | ((with_reducible refine Knd.assign ?_); (refine Exec.stab rfl (Stab.assign rfl) rfl ?_)) | ((with_reducible refine Knd.binOp ?_); ((refine Exec.stab rfl (Stab.int rfl rfl rfl) rfl ?_))) | ((with_reducible refine Knd.pick ?_); (first | (refine Exec.stab rfl (Stab.pick_td rfl (by first | (with_reducible assumption) | (with_reducible rfl) | (with_reducible exact (not_not_intro rfl)) | omega) rfl) rfl ?_) | (refine Exec.stab rfl (Stab.pick_fd rfl (by first | (with_reducible assumption) | (with_reducible rfl) | (with_reducible exact (not_not_intro rfl)) | omega) rfl) rfl ?_))) | ((with_reducible refine Knd.store ?_); ((refine Exec.storeW rfl rfl (tysOk.get rfl) (by repeat (first | exact Upd.here | apply Upd.there)) rfl rfl (by repeat (first | exact AllOne.nil | refine AllOne.cons (by first | rfl | assumption) ?_)) ?_))) | ((with_reducible refine Knd.alloc ?_); (first | (refine Exec.alloc (tysOk.get rfl) rfl rfl (fun b => ?_)) | (refine Exec.alloc1 (tysOk.get rfl) rfl rfl rfl (fun b => ?_)))) | ((with_reducible refine Knd.build ?_); ((refine Exec.stab rfl (Stab.build tysOk rfl rfl rfl rfl (by repeat (exact BuildP.nil))) rfl ?_))))) | (with_reducible refine Tr.next ?_) | (with_reducible refine Tr.seq ?_) | (with_reducible refine Tr.region ?_) | (with_reducible refine Tr.nil ?_) | ((refine Tr.guard_y' rfl rfl rfl (by first | (with_reducible assumption) | (with_reducible rfl) | (with_reducible exact (not_not_intro rfl)) | omega) ?_); (((with_reducible refine Knd.binOp ?_); ((refine Exec.stab rfl (Stab.int rfl rfl rfl) rfl ?_))))) | (refine Tr.guard_n' rfl rfl rfl (by first | (with_reducible assumption) | (with_reducible rfl) | (with_reducible exact (not_not_intro rfl)) | omega) rfl rfl ?_) | (with_reducible refine Tr.ret ?_) | (with_reducible refine Tr.then_ret ?_) | (refine Tr.cond_bt rfl (by first | (with_reducible rfl) | (with_reducible assumption) | (with_reducible exact Bool.not_true) | (with_reducible exact Bool.not_false)) ?_) | (refine Tr.cond_t rfl (by first | (with_reducible assumption) | (with_reducible rfl) | (with_reducible exact (not_not_intro rfl)) | omega) ?_) | (((with_reducible refine Knd.move ?_); (refine Exec.stab rfl (Stab.move rfl) rfl ?_))) | ((refine Tr.guardd' rfl rfl rfl rfl rfl (fun hg => ?_) (fun hg => ?_))))
    all_goals
      first
        | (exfalso; omega)
        | ((refine Tr.done (by first | exact .inl rfl | exact .inr rfl) rfl (by repeat (first | exact RVs.nil | (apply RVs.cons; (first | exact RV.tmp rfl | exact RV.cellW (by rfl) (tysOk.get (by rfl)) (by rfl) (by repeat (first | exact Has.here | apply Has.there)) (by first | rfl | assumption))))) (by first | exact Mem.le.refl _ | assumption) (by exact ⟨[_], rfl⟩) ⟨rfl, ?_⟩)
           exact ⟨_, by unfold newF; rw [if_neg hn]; rfl, by unfold newF; rw [if_neg hn]; exact RDisk.zero M⟩)
end Go.Proofs.Ytkbggengagockaa
/-
  The journal, plain: Sync on a disk that does not stop.
  Conditions: none.
-/
namespace Go.Proofs.Ytkbggengagockaa
open Go Bf
/-- the sectors after more records -/
def after (D T : List (List UInt8)) : List (List UInt8) := D.take (occs (recs D)) ++ secsAll (gmax D + 1) (occs (recs D)) T ++ D.drop (occs (recs D) + occs T)
theorem after_nil (D : List (List UInt8)) : after D [] = D := by simp [after, secsAll, occs]
theorem after_length {D T : List (List UInt8)} (h : occs (recs D) + occs T ≤ D.length) : (after D T).length = D.length := by
  simp only [after, List.length_append, List.length_take, List.length_drop, secsAll_length]; omega
theorem secsAll_mem {g : Nat} (hg : g < 4294967296) : ∀ {l : List (List UInt8)} {at_ : Nat} {s : List UInt8}, s ∈ secsAll g at_ l → s.length = 128 ∧ gen s = g ∧ be (s.drop 124) = g
  | [], _, _, h => by cases h
  | b :: l, at_, s, h => by
    rw [secsAll] at h
    rcases List.mem_append.1 h with h | h
    · simp only [secs, secsFrom, List.mem_map] at h
      obtain ⟨j, _, rfl⟩ := h
      have hl := piece_le b j
      exact ⟨bF_length hl, gen_bF hg, by rw [tail_bF hl, be_be4 hg]⟩
    · exact secsAll_mem hg h
theorem after_mem {D T : List (List UInt8)} (hg : gmax D + 1 < 4294967296) {s : List UInt8} (h : s ∈ after D T) : s ∈ D ∨ (s.length = 128 ∧ gen s = gmax D + 1 ∧ be (s.drop 124) = gmax D + 1) := by
  rw [after] at h
  rcases List.mem_append.1 h with h | h
  · rcases List.mem_append.1 h with h | h
    · exact .inl (List.mem_of_mem_take h)
    · exact .inr (secsAll_mem hg h)
  · exact .inl (List.mem_of_mem_drop h)
theorem after_128 {D T : List (List UInt8)} (hg : gmax D + 1 < 4294967296) (h128 : ∀ s ∈ D, s.length = 128) : ∀ s ∈ after D T, s.length = 128 := fun s hs => by
  rcases after_mem hg hs with h | h
  · exact h128 s h
  · exact h.1
theorem gmax_ge2 : ∀ (l : List (List UInt8)) (n : Nat), ∀ s ∈ l, be (s.drop 124) ≤ l.foldl (fun g s => max (max g (gen s)) (be (s.drop 124))) n
  | [], _, s, h => by cases h
  | x :: l, n, s, hs => by
    rw [List.foldl_cons]
    rcases List.mem_cons.1 hs with rfl | h
    · have := (gmax_ge l (max (max n (gen s)) (be (s.drop 124)))).1; omega
    · exact gmax_ge2 l _ s h
theorem tail_le_gmax {l : List (List UInt8)} {s : List UInt8} (h : s ∈ l) : be (s.drop 124) ≤ gmax l := gmax_ge2 l 0 s h
theorem gmax_le {G : Nat} (l : List (List UInt8)) (h : ∀ s ∈ l, gen s ≤ G ∧ be (s.drop 124) ≤ G) : gmax l ≤ G := by
  have key : ∀ (l : List (List UInt8)) (n : Nat), n ≤ G → (∀ s ∈ l, gen s ≤ G ∧ be (s.drop 124) ≤ G) → l.foldl (fun g s => max (max g (gen s)) (be (s.drop 124))) n ≤ G := by
    intro l
    induction l with
    | nil => intro n hn _; exact hn
    | cons s l ih =>
      intro n hn h
      rw [List.foldl_cons]
      have hs := h s List.mem_cons_self
      exact ih _ (by omega) fun x hx => h x (List.mem_cons_of_mem _ hx)
  exact key l 0 (Nat.zero_le _) h
theorem gmax_after {D T : List (List UInt8)} (hg : gmax D + 1 < 4294967296) : gmax (after D T) ≤ gmax D + 1 := gmax_le _ fun s hs => by
  rcases after_mem hg hs with h | h
  · have h1 := gen_le_gmax h; have h2 := tail_le_gmax h; omega
  · omega
theorem recs_after {D T : List (List UInt8)} (h128 : ∀ s ∈ D, s.length = 128) (hT : occs (recs D) + occs T ≤ D.length) (hl : D.length ≤ 4096) (hg : gmax D + 1 < 4294967296) : recs (after D T) = recs D ++ T :=
  sync_reads h128 (by omega) hg
theorem idle_ok {d : Dsk} {n : Int} (h : okD d) (hs : d.stop = false) (hp : d.pen = []) (hn : ¬ (0 ≤ n ∧ n ≠ d.sec.length)) : idleF d n = 0 := by
  rw [idleF, if_pos h, if_neg (by rw [hs]; decide), if_neg (by rw [hp]; simp only [List.length_nil]; omega)]
/-- a disk that is synced -/
def dk (D : List (List UInt8)) : Dsk := ⟨D, [], -1, false⟩
theorem dk_ok {D : List (List UInt8)} (h1 : 1 ≤ D.length) (h2 : D.length ≤ 4096) (h128 : ∀ s ∈ D, s.length = 128) : okD (dk D) :=
  ⟨h1, h2, by simp [dk], h128, fun w hw => (by cases hw), by simp [dk], by simp [dk]⟩
theorem syncJ_run {j : Jr} {D : List (List UInt8)} (hk : okJ j) (h128 : ∀ s ∈ D, s.length = 128) (hm : j.many = (D.length : Int)) (hr : recs D = j.rcs.take j.syn.toNat) (hg : gmax D + 1 ≤ 4294967295) :
    syncJ j (dk D) = (⟨j.many, (j.rcs.length : Int), j.rcs⟩, dk (after D (j.rcs.drop j.syn.toNat)), 0) := by
  obtain ⟨k1, k2, k3, k4, k5⟩ := id hk
  have hok := dk_ok (D := D) (by omega) (by omega) h128
  have hsum := occs_split j.rcs j.syn.toNat
  rw [syncJ, if_pos hk, if_pos (idle_ok hok rfl rfl (fun h => h.2 hm)), if_pos (show recs (dk D).sec = _ from hr), if_pos (show gmax (dk D).sec + 1 ≤ 4294967295 from hg)]
  by_cases e : j.syn = (j.rcs.length : Int)
  · rw [if_pos e]
    have : j.rcs.drop j.syn.toNat = [] := List.drop_eq_nil_of_le (by omega)
    rw [this, after_nil]
    cases j
    simp only at e ⊢
    rw [e]
  · rw [if_neg e]
    have hru : runs (dAfter (dk D) (wrsAll (gmax (dk D).sec + 1) (occs (j.rcs.take j.syn.toNat)) (j.rcs.drop j.syn.toNat))) := wrsAll_runs ⟨hok, rfl⟩ (by show _ ≤ D.length; omega) rfl
    have hs : syncF (dAfter (dk D) (wrsAll (gmax (dk D).sec + 1) (occs (j.rcs.take j.syn.toNat)) (j.rcs.drop j.syn.toNat))) = (dk (after D (j.rcs.drop j.syn.toNat)), 0) := by
      rw [syncF, if_pos hru, if_neg (fun h => absurd h.1 (by simp [dAfter, dk]))]
      have e1 : perf (dAfter (dk D) (wrsAll (gmax (dk D).sec + 1) (occs (j.rcs.take j.syn.toNat)) (j.rcs.drop j.syn.toNat))).sec (dAfter (dk D) (wrsAll (gmax (dk D).sec + 1) (occs (j.rcs.take j.syn.toNat)) (j.rcs.drop j.syn.toNat))).pen = after D (j.rcs.drop j.syn.toNat) := by
        show perf D ([] ++ wrsAll (gmax D + 1) (occs (j.rcs.take j.syn.toNat)) (j.rcs.drop j.syn.toNat)) = _
        rw [List.nil_append, perf_wrsAll _ _ _ _ (by omega), after, hr]
      rw [e1]
      rfl
    simp only [hs, if_true]
theorem openF_dk {D : List (List UInt8)} (h1 : 1 ≤ D.length) (h2 : D.length ≤ 4096) (h128 : ∀ s ∈ D, s.length = 128) : openF (dk D) = (⟨(D.length : Int), ((recs D).length : Int), recs D⟩, 0) := by
  rw [openF, if_pos (idle_ok (dk_ok h1 h2 h128) rfl rfl (by omega))]
  rfl
/-! a new disk -/
theorem gen_zsec : gen zsec = 0 := by decide +kernel
theorem tail_zsec : be (zsec.drop 124) = 0 := by decide +kernel
theorem zsec_len : zsec.length = 128 := by simp [zsec]
theorem recs_new (n : Nat) : recs (List.replicate n zsec) = [] := by
  cases n with
  | zero => rfl
  | succ n =>
    rw [recs_eq, List.replicate_succ, recsL_cons, if_neg (by omega), gen_zsec, readR, if_neg (fun h => h.1.1 gen_zsec)]
theorem gmax_new (n : Nat) : gmax (List.replicate n zsec) = 0 := Nat.le_zero.1 (gmax_le _ fun s hs => by
  rw [List.eq_of_mem_replicate hs, gen_zsec, tail_zsec]
  exact ⟨Nat.le_refl _, Nat.le_refl _⟩)
theorem new_128 (n : Nat) : ∀ s ∈ List.replicate n zsec, s.length = 128 := fun s hs => by rw [List.eq_of_mem_replicate hs, zsec_len]
theorem newF_dk {n : Nat} (h1 : 1 ≤ n) (h2 : n ≤ 4096) : newF (n : Int) = (dk (List.replicate n zsec), 0) := by
  rw [newF, if_pos (by omega), Int.toNat_natCast]
  rfl
end Go.Proofs.Ytkbggengagockaa
/-
  The journal: the chapter's examples hold.
  Conditions: none.
-/
namespace Go.Proofs.Ytkbggengagockaa
open Go Bf
attribute [local irreducible] Tr Exec Stab HasTy Go.Addr.add IntKind.wrap
theorem RJPair.openJ {M : Mem} {r : Value} {j : Jr} {e : Int} (h : RJPair M r (j, e)) : ∃ A c, r = .tuple #[.agg #[.int .i64 j.many, .int .i64 j.syn, .slice A j.rcs.length c], .int .i64 e] ∧ RJr M (.agg #[.int .i64 j.many, .int .i64 j.syn, .slice A j.rcs.length c]) j := by
  obtain ⟨v, rfl, A, c, rfl, h1⟩ := h
  exact ⟨A, c, rfl, A, c, rfl, h1⟩
theorem R3.openJ {M : Mem} {r : Value} {j : Jr} {d : Dsk} {e : Int} (h : R3 M r (j, d, e)) : ∃ A c A2 c2 B2 k2, r = .tuple #[.agg #[.int .i64 j.many, .int .i64 j.syn, .slice A j.rcs.length c], .agg #[.slice A2 d.sec.length c2, .slice B2 d.pen.length k2, .int .i64 d.left, .bool d.stop], .int .i64 e] ∧ RJr M (.agg #[.int .i64 j.many, .int .i64 j.syn, .slice A j.rcs.length c]) j ∧ RDisk M (.agg #[.slice A2 d.sec.length c2, .slice B2 d.pen.length k2, .int .i64 d.left, .bool d.stop]) d := by
  obtain ⟨v, w, rfl, ⟨A, c, rfl, h1⟩, A2, c2, B2, k2, rfl, h2, h3⟩ := h
  exact ⟨A, c, A2, c2, B2, k2, rfl, ⟨A, c, rfl, h1⟩, A2, c2, B2, k2, rfl, h2, h3⟩
def xAB : List UInt8 := [97, 98]
def D1 : List (List UInt8) := after [zsec] [xAB]
theorem z_128 : ∀ s ∈ [zsec], s.length = 128 := new_128 1
theorem recs_z : recs [zsec] = [] := recs_new 1
theorem gmax_z : gmax [zsec] = 0 := gmax_new 1
theorem occ_ab : occs [xAB] = 1 := rfl
theorem D1_length : D1.length = 1 := after_length (by rw [recs_z, occ_ab]; exact Nat.le_refl _)
theorem D1_128 : ∀ s ∈ D1, s.length = 128 := after_128 (by rw [gmax_z]; decide) z_128
theorem recs_D1 : recs D1 = [xAB] := by
  rw [D1, recs_after z_128 (by rw [recs_z, occ_ab]; exact Nat.le_refl _) (by decide) (by rw [gmax_z]; decide), recs_z]; rfl
theorem ex_new1 : newF 1 = (dk [zsec], 0) := newF_dk (n := 1) (by decide) (by decide)
theorem ex_open0 : openF (dk [zsec]) = (⟨1, 0, []⟩, 0) := by
  rw [openF_dk (by decide) (by decide) z_128, recs_z]; rfl
theorem ex_app113 : appF ⟨1, 0, []⟩ (List.replicate 113 0) = (zJ, 2) := by
  rw [appF, if_pos (by decide), if_neg (by rw [List.length_replicate]; decide)]
theorem ex_app2 : appF ⟨1, 0, []⟩ xAB = (⟨1, 0, [xAB]⟩, 0) := by
  rw [appF, if_pos (by decide), if_pos (by decide)]; rfl
theorem ex_ok : okJ ⟨1, 0, [xAB]⟩ := by decide
theorem ex_sync1 : syncJ ⟨1, 0, [xAB]⟩ (dk [zsec]) = (⟨1, 1, [xAB]⟩, dk D1, 0) := by
  rw [syncJ_run ex_ok z_128 rfl (by rw [recs_z]; rfl) (by rw [gmax_z]; decide)]; rfl
theorem ex_open1 : openF (dk D1) = (⟨1, 1, [xAB]⟩, 0) := by
  rw [openF_dk (by rw [D1_length]; decide) (by rw [D1_length]; decide) D1_128, recs_D1, D1_length]; rfl
theorem ex_sync2 : syncJ ⟨1, 0, [xAB]⟩ (dk D1) = (zJ, zD, 450) := by
  have hok := dk_ok (D := D1) (by rw [D1_length]; decide) (by rw [D1_length]; decide) D1_128
  rw [syncJ, if_pos ex_ok, if_pos (idle_ok hok rfl rfl (fun h => h.2 (by show (1 : Int) = (D1.length : Int); rw [D1_length]; rfl))), if_neg (by
    show ¬ recs D1 = [xAB].take (Int.toNat 0)
    rw [recs_D1]
    intro h
    cases h)]
theorem ex_room : roomF ⟨1, 0, []⟩ = 112 := by decide
theorem ex_chk : ¬ okJ zJ := by decide

theorem fx_new1 (M : Mem) : Fn0 Try.prog 25 [.int .i64 1] M (fun r M' => ∃ A c B k, r = .tuple #[.agg #[.slice A 1 c, .slice B 0 k, .int .i64 (-1), .bool false], .int .i64 0] ∧ RDisk M' (.agg #[.slice A 1 c, .slice B 0 k, .int .i64 (-1), .bool false]) (dk [zsec])) :=
  Fn0.mono (new_fn M 1) fun v M' _ h => by
    rw [ex_new1] at h
    exact h.openJ
theorem fx_open0 (M : Mem) (v : Value) (h : RDisk M v (dk [zsec])) : Fn0 Try.prog 12 [v] M (fun r M' => ∃ A c, r = .tuple #[.agg #[.int .i64 1, .int .i64 0, .slice A 0 c], .int .i64 0] ∧ RJr M' (.agg #[.int .i64 1, .int .i64 0, .slice A 0 c]) ⟨1, 0, []⟩) :=
  Fn0.mono (open_fn M v _ h) fun v M' _ h => by
    rw [ex_open0] at h
    exact h.openJ
theorem fx_app113 (M : Mem) (v : Value) (A : Option Addr) (c : Nat) (h : RJr M v ⟨1, 0, []⟩) (hb : BSl M (.slice A 113 c) (List.replicate 113 0)) : Fn0 Try.prog 15 [v, .slice A 113 c] M (fun r M' => ∃ A c, r = .tuple #[.agg #[.int .i64 0, .int .i64 0, .slice A 0 c], .int .i64 2]) :=
  Fn0.mono (append_fn M v _ A c (List.replicate 113 0) h hb (by decide) (by simp) (by decide)) fun v M' _ h => by
    rw [ex_app113] at h
    obtain ⟨A, c, h, -⟩ := h.openJ
    exact ⟨A, c, h⟩
theorem fx_app2 (M : Mem) (v : Value) (A : Option Addr) (c : Nat) (h : RJr M v ⟨1, 0, []⟩) (hb : BSl M (.slice A 2 c) xAB) : Fn0 Try.prog 15 [v, .slice A 2 c] M (fun r M' => ∃ A c, r = .tuple #[.agg #[.int .i64 1, .int .i64 0, .slice A 1 c], .int .i64 0] ∧ RJr M' (.agg #[.int .i64 1, .int .i64 0, .slice A 1 c]) ⟨1, 0, [xAB]⟩) :=
  Fn0.mono (append_fn M v _ A c xAB h hb (by decide) (by decide) (by decide)) fun v M' _ h => by
    rw [ex_app2] at h
    exact h.openJ
theorem fx_sync1 (M : Mem) (v w : Value) (h : RJr M v ⟨1, 0, [xAB]⟩) (hd : RDisk M w (dk [zsec])) : Fn0 Try.prog 21 [v, w] M (fun r M' => ∃ A c A2 c2 B2 k2, r = .tuple #[.agg #[.int .i64 1, .int .i64 1, .slice A 1 c], .agg #[.slice A2 1 c2, .slice B2 0 k2, .int .i64 (-1), .bool false], .int .i64 0] ∧ RDisk M' (.agg #[.slice A2 1 c2, .slice B2 0 k2, .int .i64 (-1), .bool false]) (dk D1)) :=
  Fn0.mono (sync_jfn M v w _ _ h hd (by decide)) fun v M' _ h => by
    rw [ex_sync1] at h
    obtain ⟨A, c, A2, c2, B2, k2, h, -, h2⟩ := h.openJ
    rw [show (dk D1).sec.length = 1 from D1_length] at h h2
    exact ⟨A, c, A2, c2, B2, k2, h, h2⟩
theorem fx_open1 (M : Mem) (v : Value) (h : RDisk M v (dk D1)) : Fn0 Try.prog 12 [v] M (fun r M' => ∃ A c, r = .tuple #[.agg #[.int .i64 1, .int .i64 1, .slice A 1 c], .int .i64 0] ∧ RJr M' (.agg #[.int .i64 1, .int .i64 1, .slice A 1 c]) ⟨1, 1, [xAB]⟩) :=
  Fn0.mono (open_fn M v _ h) fun v M' _ h => by
    rw [ex_open1] at h
    exact h.openJ
theorem fx_sync2 (M : Mem) (v w : Value) (h : RJr M v ⟨1, 0, [xAB]⟩) (hd : RDisk M w (dk D1)) : Fn0 Try.prog 21 [v, w] M (fun r M' => ∃ A c A2 c2 B2 k2, r = .tuple #[.agg #[.int .i64 0, .int .i64 0, .slice A 0 c], .agg #[.slice A2 0 c2, .slice B2 0 k2, .int .i64 0, .bool false], .int .i64 450]) :=
  Fn0.mono (sync_jfn M v w _ _ h hd (by decide)) fun v M' _ h => by
    rw [ex_sync2] at h
    obtain ⟨A, c, A2, c2, B2, k2, h, -, -⟩ := h.openJ
    exact ⟨A, c, A2, c2, B2, k2, h⟩
theorem fx_room (M : Mem) (v : Value) (h : RJr M v ⟨1, 0, []⟩) : Fn0 Try.prog 19 [v] M (fun r M' => r = .int .i64 112 ∧ M = M') := by
  have := room_fn M v _ h (by decide)
  rwa [ex_room] at this
theorem fx_chk (M : Mem) : Fn0 Try.prog 17 [.agg #[.int .i64 0, .int .i64 0, .slice none 0 0]] M (fun r M' => r = .int .i64 1 ∧ M = M') := jcheck_n M _ zJ (RJr.zero M) (by decide) ex_chk

set_option maxHeartbeats 8000000 in
theorem sane_jfn (M : Mem) : Fn0 Try.prog 10 [] M (fun r M' => r = .bool true) := by
  refine Fn.intro Try.func10 rfl rfl Try.ntmps10 rfl fun E F => ?_
  repeat (first | ((with_reducible refine Tr.step rfl ?_); (((with_reducible refine Knd.assign ?_); (refine Exec.stab rfl (Stab.assign rfl) rfl ?_)))) | (with_reducible refine Tr.next ?_) | (with_reducible refine Tr.seq ?_) | (with_reducible refine Tr.region ?_) | (with_reducible refine Tr.nil ?_))
  ((refine Tr.step rfl ?_)); refine Exec.call0 rfl (fx_new1 M) rfl ?_
  rintro _ M1 hm1 ⟨A1, c1, B1, k1, rfl, hd1⟩
  repeat (first | ((with_reducible refine Tr.step rfl ?_); (first | ((with_reducible refine Knd.move ?_); (refine Exec.stab rfl (Stab.move rfl) rfl ?_)) | ((with_reducible refine Knd.assign ?_); (refine Exec.stab rfl (Stab.assign rfl) rfl ?_)) | ((with_reducible refine Knd.load ?_); ((refine Exec.stab rfl (Stab.loadW rfl (tysOk.get rfl) rfl (by repeat (first | exact Has.here | apply Has.there)) rfl) rfl ?_))) | ((with_reducible refine Knd.store ?_); ((refine Exec.storeW rfl rfl (tysOk.get rfl) (by repeat (first | exact Upd.here | apply Upd.there)) rfl rfl (by repeat (first | exact AllOne.nil | refine AllOne.cons (by first | rfl | assumption) ?_)) ?_))) | ((with_reducible refine Knd.alloc ?_); (first | (refine Exec.alloc (tysOk.get rfl) rfl rfl (fun b => ?_)) | (refine Exec.alloc1 (tysOk.get rfl) rfl rfl rfl (fun b => ?_)))) | ((with_reducible refine Knd.extract ?_); (refine Exec.stab rfl (Stab.extract rfl rfl) rfl ?_)))) | (with_reducible refine Tr.next ?_) | (with_reducible refine Tr.seq ?_) | (with_reducible refine Tr.region ?_) | (with_reducible refine Tr.nil ?_))
  ((refine Tr.step rfl ?_)); refine Exec.call0 rfl (fx_open0 M1 _ hd1) rfl ?_
  rintro _ M2 hm2 ⟨A2, c2, rfl, hl⟩
  repeat (first | ((with_reducible refine Tr.step rfl ?_); (first | ((with_reducible refine Knd.move ?_); (refine Exec.stab rfl (Stab.move rfl) rfl ?_)) | ((with_reducible refine Knd.assign ?_); (refine Exec.stab rfl (Stab.assign rfl) rfl ?_)) | ((with_reducible refine Knd.store ?_); ((refine Exec.storeW rfl rfl (tysOk.get rfl) (by repeat (first | exact Upd.here | apply Upd.there)) rfl rfl (by repeat (first | exact AllOne.nil | refine AllOne.cons (by first | rfl | assumption) ?_)) ?_))) | ((with_reducible refine Knd.alloc ?_); (first | (refine Exec.alloc (tysOk.get rfl) rfl rfl (fun b => ?_)) | (refine Exec.alloc1 (tysOk.get rfl) rfl rfl rfl (fun b => ?_)))) | ((with_reducible refine Knd.extract ?_); (refine Exec.stab rfl (Stab.extract rfl rfl) rfl ?_)))) | (with_reducible refine Tr.next ?_) | (with_reducible refine Tr.seq ?_) | (with_reducible refine Tr.nil ?_))
  (((apply Tr.draw); (kernel_rfl)); (refine TrA.take 0 (by kernel_rfl) rfl (by kernel_rfl) (by first | exact fun _ _ _ h => h | exact fun _ _ _ h => nomatch h.1) (by exact fun _ h => h) rfl (by exact Stab.loadW rfl (tysOk.get rfl) rfl (by repeat (first | exact Has.here | apply Has.there)) rfl) rfl rfl ?_))
  ((refine TrM.start1 _ (by first | exact PA.alloc 6 rfl (tysOk.get rfl) rfl rfl | exact PA.alloc1 6 rfl (tysOk.get rfl) rfl rfl rfl) (by kernel_rfl) ?_); (refine TrM.eff 1 rfl (by kernel_rfl) (by first | exact .inl rfl | exact .inr ⟨_, _, _, rfl, rfl, rfl⟩) (by repeat (first | exact PendOk.nil | refine PendOk.cons rfl (by repeat (first | exact SubFr.nil | refine SubFr.cons rfl ?_)) ?_)) (by exact fun _ h => h) (by repeat (first | apply AppF.cons | exact AppF.nil | exact AppF.app)) (by repeat (first | apply AppF.cons | exact AppF.nil | exact AppF.app)) (fun Y X => ?_)); (((refine Knd.makeSlice ?_); (refine Exec.make rfl rfl (tysOk.get rfl) rfl (tysOk.get rfl) rfl rfl rfl (by omega) (by omega) (by first | omega | (simp; done) | (simp; omega)) (by omega) rfl (fun b => ?_)))); (refine ⟨_, _, (by repeat (first | apply App.cons | exact App.nil | exact App.app)), (by repeat (first | apply App.cons | exact App.nil | exact App.app)), rfl, (by first | exact Mem.le.refl _ | assumption), (by exact (Sub.mem (by repeat (first | exact Sub.refl | apply Sub.cons)))), ?_⟩))
  refine TrM.publish (x := box _ 5 _) (by repeat (first | exact Del.here | apply Del.there)) (fun M3 hm3 hok => ?_)
  have hb : BSl M3 (.slice (some ⟨_, 0, none⟩) 113 113) (List.replicate 113 0) := BSl.ofBox (bs := List.replicate 113 0) (by rw [byteV_replicate] at hok; exact hok) (by simp)
  ((refine TrM.eff 2 rfl (by kernel_rfl) (by first | exact .inl rfl | exact .inr ⟨_, _, _, rfl, rfl, rfl⟩) (by repeat (first | exact PendOk.nil | refine PendOk.cons rfl (by repeat (first | exact SubFr.nil | refine SubFr.cons rfl ?_)) ?_)) (by exact fun _ h => h) (by repeat (first | apply AppF.cons | exact AppF.nil | exact AppF.app)) (by repeat (first | apply AppF.cons | exact AppF.nil | exact AppF.app)) (fun Y X => ?_)))
  refine Exec.call0 rfl (fx_app113 M3 _ _ _ (hl.mono hm3) hb) rfl ?_
  rintro _ M4 hm4 ⟨A4, c4, rfl⟩
  (refine ⟨_, _, (by repeat (first | apply App.cons | exact App.nil | exact App.app)), (by repeat (first | apply App.cons | exact App.nil | exact App.app)), rfl, (by first | exact Mem.le.refl _ | assumption), (by exact fun _ h => h), ?_⟩)
  ((refine TrM.take 3 (by kernel_rfl) rfl (by kernel_rfl) (by first | exact fun _ _ _ h => h | exact fun _ _ _ h => nomatch h.1) (by exact fun _ h => h) rfl (by first | exact Stab.move rfl) rfl rfl ?_); (refine TrM.take 4 (by kernel_rfl) rfl (by kernel_rfl) (by first | exact fun _ _ _ h => h | exact fun _ _ _ h => nomatch h.1) (by exact fun _ h => h) rfl (by first | exact Stab.extract rfl rfl) rfl rfl ?_); (refine TrM.take 5 (by kernel_rfl) rfl (by kernel_rfl) (by first | exact fun _ _ _ h => h | exact fun _ _ _ h => nomatch h.1) (by exact fun _ h => h) rfl (by first | exact Stab.extract rfl rfl) rfl rfl ?_); (refine TrM.settle (by kernel_rfl) (by repeat (first | exact PendOk.nil | refine PendOk.cons rfl (by repeat (first | exact SubFr.nil | refine SubFr.cons rfl ?_)) ?_)) (by exact fun _ h => h) (fun b => ?_)); dsimp only; (refine TrM.fin ?_))
  ((refine TrA.eff 7 rfl (by kernel_rfl) (by first | exact .inl rfl | exact .inr ⟨_, _, _, rfl, rfl, rfl⟩) ?_); (((refine Knd.store ?_); ((refine Exec.storeW rfl rfl (tysOk.get rfl) (by repeat (first | exact Upd.here | apply Upd.there)) rfl rfl (by repeat (first | exact AllOne.nil | refine AllOne.cons (by first | rfl | assumption) ?_)) ?_)))); (refine ⟨(by first | exact Mem.le.refl _ | assumption), (by exact (Sub.mem (by repeat (first | exact Sub.refl | apply Sub.cons)))), ?_⟩); (refine TrA.take 8 (by kernel_rfl) rfl (by kernel_rfl) (by first | exact fun _ _ _ h => h | exact fun _ _ _ h => nomatch h.1) (by exact (Sub.mem (by repeat (first | exact Sub.refl | apply Sub.cons)))) rfl (by first | exact Stab.assign rfl) rfl rfl ?_); (refine TrA.done (by kernel_rfl) ?_))
  repeat (first | ((with_reducible refine Tr.step rfl ?_); (first | ((with_reducible refine Knd.load ?_); ((refine Exec.stab rfl (Stab.loadW rfl (tysOk.get rfl) rfl (by repeat (first | exact Has.here | apply Has.there)) rfl) rfl ?_))) | ((with_reducible refine Knd.buildSlice ?_); ((refine Exec.buildSlice (tysOk.get rfl) rfl (tysOk.get rfl) rfl rfl rfl rfl rfl (by repeat (first | exact BuildP.nil | ((apply BuildP.one); (rfl); (rfl); (first | rfl | assumption); (repeat (first | exact SetL.z | apply SetL.s))))) rfl (fun b => ?_)))))) | (with_reducible refine Tr.next ?_) | (with_reducible refine Tr.seq ?_) | (with_reducible refine Tr.region ?_))
  refine Tr.cells (cs' := byteV xAB) (by repeat (first | exact Upd.here | apply Upd.there)) rfl ?_
  ((refine Tr.step rfl ?_))
  refine Exec.convMark (l := xAB) rfl (tysOk.get rfl) rfl (tysOk.get rfl) rfl (by repeat (first | exact Del.here | apply Del.there)) (by decide) (by decide) rfl (fun M5 hm5 hb5 => ?_)
  have hm25 := hm3.trans (hm4.trans hm5)
  repeat (fail)
  ((refine Tr.step rfl ?_)); refine Exec.call0 rfl (fx_app2 M5 _ _ _ (hl.mono hm25) hb5) rfl ?_
  rintro _ M6 hm6 ⟨A6, c6, rfl, hx⟩
  have hm16 := hm2.trans (hm25.trans hm6)
  repeat (first | ((with_reducible refine Tr.step rfl ?_); (first | ((with_reducible refine Knd.move ?_); (refine Exec.stab rfl (Stab.move rfl) rfl ?_)) | ((with_reducible refine Knd.assign ?_); (refine Exec.stab rfl (Stab.assign rfl) rfl ?_)) | ((with_reducible refine Knd.load ?_); ((refine Exec.stab rfl (Stab.loadW rfl (tysOk.get rfl) rfl (by repeat (first | exact Has.here | apply Has.there)) rfl) rfl ?_))) | ((with_reducible refine Knd.store ?_); ((refine Exec.storeW rfl rfl (tysOk.get rfl) (by repeat (first | exact Upd.here | apply Upd.there)) rfl rfl (by repeat (first | exact AllOne.nil | refine AllOne.cons (by first | rfl | assumption) ?_)) ?_))) | ((with_reducible refine Knd.alloc ?_); (first | (refine Exec.alloc (tysOk.get rfl) rfl rfl (fun b => ?_)) | (refine Exec.alloc1 (tysOk.get rfl) rfl rfl rfl (fun b => ?_)))) | ((with_reducible refine Knd.extract ?_); (refine Exec.stab rfl (Stab.extract rfl rfl) rfl ?_)))) | (with_reducible refine Tr.next ?_) | (with_reducible refine Tr.seq ?_) | (with_reducible refine Tr.region ?_) | (with_reducible refine Tr.nil ?_))
  ((refine Tr.step rfl ?_)); refine Exec.call0 rfl (fx_sync1 M6 _ _ hx (hd1.mono hm16)) rfl ?_
  rintro _ M7 hm7 ⟨A7, c7, A8, c8, B8, k8, rfl, hc⟩
  repeat (first | ((with_reducible refine Tr.step rfl ?_); (first | ((with_reducible refine Knd.move ?_); (refine Exec.stab rfl (Stab.move rfl) rfl ?_)) | ((with_reducible refine Knd.assign ?_); (refine Exec.stab rfl (Stab.assign rfl) rfl ?_)) | ((with_reducible refine Knd.load ?_); ((refine Exec.stab rfl (Stab.loadW rfl (tysOk.get rfl) rfl (by repeat (first | exact Has.here | apply Has.there)) rfl) rfl ?_))) | ((with_reducible refine Knd.store ?_); ((refine Exec.storeW rfl rfl (tysOk.get rfl) (by repeat (first | exact Upd.here | apply Upd.there)) rfl rfl (by repeat (first | exact AllOne.nil | refine AllOne.cons (by first | rfl | assumption) ?_)) ?_))) | ((with_reducible refine Knd.alloc ?_); (first | (refine Exec.alloc (tysOk.get rfl) rfl rfl (fun b => ?_)) | (refine Exec.alloc1 (tysOk.get rfl) rfl rfl rfl (fun b => ?_)))) | ((with_reducible refine Knd.extract ?_); (refine Exec.stab rfl (Stab.extract rfl rfl) rfl ?_)))) | (with_reducible refine Tr.next ?_) | (with_reducible refine Tr.seq ?_) | (with_reducible refine Tr.region ?_) | (with_reducible refine Tr.nil ?_))
  ((refine Tr.step rfl ?_)); refine Exec.call0 rfl (fx_open1 M7 _ hc) rfl ?_
  rintro _ M8 hm8 ⟨A9, c9, rfl, hz⟩
  have hm28 := hm25.trans (hm6.trans (hm7.trans hm8))
  repeat (first | ((with_reducible refine Tr.step rfl ?_); (first | ((with_reducible refine Knd.move ?_); (refine Exec.stab rfl (Stab.move rfl) rfl ?_)) | ((with_reducible refine Knd.assign ?_); (refine Exec.stab rfl (Stab.assign rfl) rfl ?_)) | ((with_reducible refine Knd.load ?_); ((refine Exec.stab rfl (Stab.loadW rfl (tysOk.get rfl) rfl (by repeat (first | exact Has.here | apply Has.there)) rfl) rfl ?_))) | ((with_reducible refine Knd.store ?_); ((refine Exec.storeW rfl rfl (tysOk.get rfl) (by repeat (first | exact Upd.here | apply Upd.there)) rfl rfl (by repeat (first | exact AllOne.nil | refine AllOne.cons (by first | rfl | assumption) ?_)) ?_))) | ((with_reducible refine Knd.alloc ?_); (first | (refine Exec.alloc (tysOk.get rfl) rfl rfl (fun b => ?_)) | (refine Exec.alloc1 (tysOk.get rfl) rfl rfl rfl (fun b => ?_)))) | ((with_reducible refine Knd.extract ?_); (refine Exec.stab rfl (Stab.extract rfl rfl) rfl ?_)))) | (with_reducible refine Tr.next ?_) | (with_reducible refine Tr.seq ?_) | (with_reducible refine Tr.region ?_) | (with_reducible refine Tr.nil ?_))
  ((refine Tr.step rfl ?_)); refine Exec.call0 rfl (fx_sync2 M8 _ _ (hx.mono (hm7.trans hm8)) (hc.mono hm8)) rfl ?_
  rintro _ M9 hm9 ⟨A10, c10, A11, c11, B11, k11, rfl⟩
  have hzz := hz.mono hm9
  obtain ⟨Az, cz, ez, hzs⟩ := hzz
  cases ez
  obtain ⟨hAz, chz, hatz, A12, k12, rfl, hb12⟩ := hzs.elem (i := 0) (x := xAB) rfl
  repeat (first | ((with_reducible refine Tr.step rfl ?_); (first | ((with_reducible refine Knd.move ?_); (refine Exec.stab rfl (Stab.move rfl) rfl ?_)) | ((with_reducible refine Knd.assign ?_); (refine Exec.stab rfl (Stab.assign rfl) rfl ?_)) | ((with_reducible refine Knd.binOp ?_); ((refine Exec.stab rfl (Stab.int rfl rfl rfl) rfl ?_))) | ((with_reducible refine Knd.pick ?_); ((refine Exec.stab rfl (Stab.pick_td rfl (by first | (with_reducible assumption) | (with_reducible rfl) | (with_reducible exact (not_not_intro rfl)) | omega) rfl) rfl ?_))) | ((with_reducible refine Knd.store ?_); ((refine Exec.storeW rfl rfl (tysOk.get rfl) (by repeat (first | exact Upd.here | apply Upd.there)) rfl rfl (by repeat (first | exact AllOne.nil | refine AllOne.cons (by first | rfl | assumption) ?_)) ?_))) | ((with_reducible refine Knd.alloc ?_); (first | (refine Exec.alloc (tysOk.get rfl) rfl rfl (fun b => ?_)) | (refine Exec.alloc1 (tysOk.get rfl) rfl rfl rfl (fun b => ?_)))) | ((with_reducible refine Knd.extract ?_); (refine Exec.stab rfl (Stab.extract rfl rfl) rfl ?_)))) | (with_reducible refine Tr.next ?_) | (with_reducible refine Tr.seq ?_) | (with_reducible refine Tr.region ?_) | (with_reducible refine Tr.nil ?_) | ((refine Tr.guard_y rfl rfl rfl (by first | (with_reducible assumption) | (with_reducible rfl) | (with_reducible exact (not_not_intro rfl)) | omega) ?_); (first | ((with_reducible refine Knd.move ?_); (refine Exec.stab rfl (Stab.move rfl) rfl ?_)) | ((with_reducible refine Knd.load ?_); (first | (refine Exec.stab rfl (Stab.load rfl (tysOk.get rfl) rfl (by repeat (first | exact Has.here | apply Has.there)) rfl) rfl ?_) | (refine Exec.stab rfl (Stab.loadW rfl (tysOk.get rfl) rfl (by repeat (first | exact Has.here | apply Has.there)) rfl) rfl ?_))) | ((with_reducible refine Knd.fieldAddr ?_); ((refine Exec.stab rfl (Stab.fieldZ rfl (tysOk.get rfl) rfl rfl (tysOk.get rfl) rfl) rfl ?_))) | ((with_reducible refine Knd.len ?_); ((refine Exec.stab rfl (Stab.len rfl (tysOk.get rfl) rfl) rfl ?_))) | ((with_reducible refine Knd.binOp ?_); ((refine Exec.stab rfl (Stab.int rfl rfl rfl) rfl ?_))))))
  have hstr : (⟨xAB.toArray⟩ : ByteArray).data.toList = (⟨#[97, 98]⟩ : ByteArray).data.toList := rfl
  ((refine Tr.guard_y rfl rfl rfl (by first | (with_reducible assumption) | (with_reducible rfl) | (with_reducible exact (not_not_intro rfl)) | omega) ?_)); refine Exec.call0 rfl (fx_room M9 _ (hl.mono (hm28.trans hm9))) rfl ?_
  rintro _ _ _ ⟨rfl, rfl⟩
  repeat (first | ((with_reducible refine Tr.step rfl ?_); (first | ((with_reducible refine Knd.move ?_); (refine Exec.stab rfl (Stab.move rfl) rfl ?_)) | ((with_reducible refine Knd.pick ?_); ((refine Exec.stab rfl (Stab.pick_td rfl (by first | (with_reducible assumption) | (with_reducible rfl) | (with_reducible exact (not_not_intro rfl)) | omega) rfl) rfl ?_))))) | ((refine Tr.guard_y rfl rfl rfl (by first | (with_reducible assumption) | (with_reducible rfl) | (with_reducible exact (not_not_intro rfl)) | omega) ?_); (first | ((with_reducible refine Knd.move ?_); (refine Exec.stab rfl (Stab.move rfl) rfl ?_)) | ((with_reducible refine Knd.load ?_); (first | (refine Exec.stab rfl (Stab.load rfl (tysOk.get rfl) rfl (by repeat (first | exact Has.here | apply Has.there)) rfl) rfl ?_) | (refine Exec.stab rfl (Stab.loadM rfl (tysOk.get rfl) rfl (by assumption)) rfl ?_))) | ((with_reducible refine Knd.fieldAddr ?_); ((refine Exec.stab rfl (Stab.fieldZ rfl (tysOk.get rfl) rfl rfl (tysOk.get rfl) rfl) rfl ?_))) | ((with_reducible refine Knd.len ?_); ((refine Exec.stab rfl (Stab.len rfl (tysOk.get rfl) rfl) rfl ?_))) | ((with_reducible refine Knd.binOp ?_); (first | (refine Exec.stab rfl (Stab.int rfl rfl rfl) rfl ?_) | (refine Exec.stab rfl (Stab.streq rfl rfl) rfl ?_))) | ((with_reducible refine Knd.indexAddr ?_); ((refine Exec.stab rfl (Stab.indexAddr rfl rfl (tysOk.get rfl) rfl (tysOk.get rfl) rfl (by omega) (by omega) (by first | rfl | assumption)) rfl ?_))) | ((with_reducible refine Knd.convert ?_); ((refine Exec.stab rfl (Stab.bstrB rfl (tysOk.get rfl) (tysOk.get rfl) rfl rfl (tysOk.get rfl) rfl (by assumption)) rfl ?_))) | ((with_reducible refine Knd.build ?_); ((refine Exec.stab rfl (Stab.build tysOk rfl rfl rfl rfl (by repeat (exact BuildP.nil))) rfl ?_))))))
  ((refine Tr.guard_y rfl rfl rfl (by first | (with_reducible assumption) | (with_reducible rfl) | (with_reducible exact (not_not_intro rfl)) | omega) ?_)); refine Exec.call0 rfl (fx_chk M9) rfl ?_
  rintro _ _ _ ⟨rfl, rfl⟩
  repeat (first | ((with_reducible refine Tr.step rfl ?_); (first | ((with_reducible refine Knd.assign ?_); (refine Exec.stab rfl (Stab.assign rfl) rfl ?_)) | ((with_reducible refine Knd.pick ?_); ((refine Exec.stab rfl (Stab.pick_td rfl (by first | (with_reducible assumption) | (with_reducible rfl) | (with_reducible exact (not_not_intro rfl)) | omega) rfl) rfl ?_))))) | (with_reducible refine Tr.next ?_) | (with_reducible refine Tr.nil ?_) | ((refine Tr.guard_y rfl rfl rfl (by first | (with_reducible assumption) | (with_reducible rfl) | (with_reducible exact (not_not_intro rfl)) | omega) ?_); (((with_reducible refine Knd.binOp ?_); ((refine Exec.stab rfl (Stab.int rfl rfl rfl) rfl ?_))))) | (with_reducible refine Tr.ret ?_))
  have hmm := hm1.trans (hm16.trans (hm7.trans (hm8.trans hm9)))
  (refine Tr.done (by first | exact .inl rfl | exact .inr rfl) rfl (by repeat (first | exact RVs.nil | (apply RVs.cons; (exact RV.tmp rfl)))) (by first | exact Mem.le.refl _ | assumption) (by exact ⟨[_, _, _, _, _, _, _, _, _], rfl⟩) ⟨rfl, ?_⟩)
  rfl
end Go.Proofs.Ytkbggengagockaa
/-
  The journal: the guard on sizes.
  Conditions: the records are not too many.
-/
namespace Go.Proofs.Ytkbggengagockaa
open Go Bf
attribute [local irreducible] Tr Exec Stab HasTy Go.Addr.add IntKind.wrap
def tot (l : List (List UInt8)) : Nat := (l.map fun b => 1 + b.length).sum
theorem tot_take {l : List (List UInt8)} {i : Nat} {x : List UInt8} (h : l[i]? = some x) : tot (l.take (i + 1)) = tot (l.take i) + (1 + x.length) := by
  rw [List.take_add_one, h]
  simp [tot]
theorem tot_le (l : List (List UInt8)) (i : Nat) : tot (l.take i) ≤ tot l := by
  have : tot l = tot (l.take i) + tot (l.drop i) := by
    conv => lhs; rw [← List.take_append_drop i l]
    simp only [tot, List.map_append, List.sum_append]
  omega
theorem occs_tot : ∀ l : List (List UInt8), occs l ≤ tot l ∧ l.length ≤ tot l
  | [] => ⟨Nat.le_refl _, Nat.le_refl _⟩
  | b :: l => by
    have h := occs_tot l
    have e : tot (b :: l) = 1 + b.length + tot l := by simp [tot]
    rw [occs_cons, List.length_cons, e]
    unfold occ
    omega
def fewP (d : Dsk) (l : List (List UInt8)) : Prop := d.sec.length ≤ 40 ∧ d.pen.length ≤ 40 ∧ tot l ≤ 4000
instance (d : Dsk) (l : List (List UInt8)) : Decidable (fewP d l) := by unfold fewP; infer_instance
set_option maxHeartbeats 1000000 in
theorem few_jfn (M : Mem) (v : Value) (d : Dsk) (A : Option Addr) (c : Nat) (l : List (List UInt8)) (hd : RDisk M v d) (h : SlOf 1 RSec M (.slice A l.length c) l) (hb : tot l ≤ 1048576) :
    Fn0 Try.prog 11 [v, .slice A l.length c] M (fun r M' => r = .bool (decide (fewP d l)) ∧ M = M') := by
  obtain ⟨A2, c2, B2, k2, rfl, h1, h2⟩ := hd
  have hl := h.len_le
  have l1 := h1.len_le
  have l2 := h2.len_le
  refine Fn.intro Try.func11 rfl rfl Try.ntmps11 rfl fun E F => ?_
  repeat (first | ((with_reducible refine Tr.step rfl ?_); (first | ((with_reducible refine Knd.move ?_); (refine Exec.stab rfl (Stab.move rfl) rfl ?_)) | ((with_reducible refine Knd.assign ?_); (refine Exec.stab rfl (Stab.assign rfl) rfl ?_)) | ((with_reducible refine Knd.len ?_); ((refine Exec.stab rfl (Stab.len rfl (tysOk.get rfl) rfl) rfl ?_))) | ((with_reducible refine Knd.box ?_); (first | (refine Exec.box rfl rfl (fun b => ?_)) | (refine Exec.box1 rfl (by first | rfl | assumption) rfl (fun b => ?_)))))) | (with_reducible refine Tr.next ?_) | (with_reducible refine Tr.seq ?_) | (with_reducible refine Tr.region ?_) | (with_reducible refine Tr.nil ?_) | (with_reducible refine Tr.block ?_))
  refine Tr.loop (α := Nat) (fun i => ⟨34, [(10, .int .i64 i), (9, .int .i64 l.length), (8, .slice A l.length c), (5, .int .i64 ((tot (l.take i) : Nat) : Int)), (2, .pointer (some ⟨_, 0, none⟩)), (4, .bool false)], [], M, _⟩) (fun i => i ≤ l.length) (fun i => l.length - i) 0 (Nat.zero_le _) (holds_sub (by repeat (first | exact SubFr.nil | refine SubFr.cons rfl ?_)) (by repeat (first | exact DropL.refl | apply DropL.skip))) (fun i hi => ?_)
  by_cases hlt : i < l.length
  · obtain ⟨x, hx⟩ := get_of_lt hlt
    obtain ⟨hA, ch, hat, A1, k1, rfl, hxb⟩ := h.elem hx
    have hst := tot_take hx
    have hle := tot_le l (i + 1)
    repeat (first | ((with_reducible refine Tr.step rfl ?_); (first | ((with_reducible refine Knd.move ?_); (refine Exec.stab rfl (Stab.move rfl) rfl ?_)) | ((with_reducible refine Knd.assign ?_); (refine Exec.stab rfl (Stab.assign rfl) rfl ?_)) | ((with_reducible refine Knd.load ?_); ((refine Exec.stab rfl (Stab.loadM rfl (tysOk.get rfl) rfl (by assumption)) rfl ?_))) | ((with_reducible refine Knd.len ?_); ((refine Exec.stab rfl (Stab.len rfl (tysOk.get rfl) rfl) rfl ?_))) | ((with_reducible refine Knd.binOp ?_); (first | (refine Exec.stab rfl (Stab.addi rfl rfl (by omega)) rfl ?_) | (refine Exec.stab rfl (Stab.int rfl rfl rfl) rfl ?_))) | ((with_reducible refine Knd.indexAddr ?_); ((refine Exec.stab rfl (Stab.indexAddr rfl rfl (tysOk.get rfl) rfl (tysOk.get rfl) rfl (by omega) (by omega) (by first | rfl | assumption)) rfl ?_))))) | (with_reducible refine Tr.next ?_) | (with_reducible refine Tr.seq ?_) | (with_reducible refine Tr.region ?_) | (with_reducible refine Tr.nil ?_) | (with_reducible refine Tr.skip ?_) | (with_reducible refine Tr.block ?_) | (with_reducible refine Tr.in_normal ?_) | (refine Tr.cond_t rfl (by first | (with_reducible assumption) | (with_reducible rfl) | (with_reducible exact (not_not_intro rfl)) | omega) ?_))
    have e : ((tot (l.take i) : Nat) : Int) + (1 + (x.length : Int)) = ((tot (l.take (i + 1)) : Nat) : Int) := by omega
    rw [e]
    refine Tr.again (i + 1) (by omega) (by omega) (holds_sub (by repeat (first | exact SubFr.nil | refine SubFr.cons rfl ?_)) (by repeat (first | exact DropL.refl | apply DropL.skip)))
  · have e : i = l.length := by omega
    subst e
    rw [List.take_length]
    by_cases c1 : (d.sec.length : Int) ≤ 40
    · by_cases c2 : (d.pen.length : Int) ≤ 40
      · by_cases c3 : ((tot l : Nat) : Int) ≤ 4000
        · repeat (first | ((with_reducible refine Tr.step rfl ?_); (first | ((with_reducible refine Knd.move ?_); (refine Exec.stab rfl (Stab.move rfl) rfl ?_)) | ((with_reducible refine Knd.assign ?_); (refine Exec.stab rfl (Stab.assign rfl) rfl ?_)) | ((with_reducible refine Knd.load ?_); ((refine Exec.stab rfl (Stab.load rfl (tysOk.get rfl) rfl (by repeat (first | exact Has.here | apply Has.there)) rfl) rfl ?_))) | ((with_reducible refine Knd.fieldAddr ?_); ((refine Exec.stab rfl (Stab.fieldZ rfl (tysOk.get rfl) rfl rfl (tysOk.get rfl) rfl) rfl ?_))) | ((with_reducible refine Knd.len ?_); ((refine Exec.stab rfl (Stab.len rfl (tysOk.get rfl) rfl) rfl ?_))) | ((with_reducible refine Knd.binOp ?_); ((refine Exec.stab rfl (Stab.int rfl rfl rfl) rfl ?_))) | ((with_reducible refine Knd.pick ?_); ((refine Exec.stab rfl (Stab.pick_td rfl (by first | (with_reducible assumption) | (with_reducible rfl) | (with_reducible exact (not_not_intro rfl)) | omega) rfl) rfl ?_))))) | (with_reducible refine Tr.next ?_) | (with_reducible refine Tr.seq ?_) | (with_reducible refine Tr.region ?_) | (with_reducible refine Tr.nil ?_) | ((refine Tr.guard_y rfl rfl rfl (by first | (with_reducible assumption) | (with_reducible rfl) | (with_reducible exact (not_not_intro rfl)) | omega) ?_); (first | ((with_reducible refine Knd.move ?_); (refine Exec.stab rfl (Stab.move rfl) rfl ?_)) | ((with_reducible refine Knd.load ?_); ((refine Exec.stab rfl (Stab.load rfl (tysOk.get rfl) rfl (by repeat (first | exact Has.here | apply Has.there)) rfl) rfl ?_))) | ((with_reducible refine Knd.fieldAddr ?_); ((refine Exec.stab rfl (Stab.fieldZ rfl (tysOk.get rfl) rfl rfl (tysOk.get rfl) rfl) rfl ?_))) | ((with_reducible refine Knd.len ?_); ((refine Exec.stab rfl (Stab.len rfl (tysOk.get rfl) rfl) rfl ?_))) | ((with_reducible refine Knd.binOp ?_); ((refine Exec.stab rfl (Stab.int rfl rfl rfl) rfl ?_))))) | (with_reducible refine Tr.exit ?_) | (with_reducible refine Tr.ret ?_) | (with_reducible refine Tr.then_exit ?_) | ((with_reducible refine Tr.in_exit ?_ ?_); (exact rfl)) | (refine Tr.cond_f rfl (by first | (with_reducible assumption) | (with_reducible rfl) | (with_reducible exact (not_not_intro rfl)) | omega) ?_))
          (refine Tr.done (by first | exact .inl rfl | exact .inr rfl) rfl (by repeat (first | exact RVs.nil | (apply RVs.cons; (exact RV.tmp rfl)))) (by first | exact Mem.le.refl _ | assumption) (by exact ⟨[_], rfl⟩) ⟨rfl, ?_⟩)
          exact ⟨by rw [decide_eq_true (show fewP d l from ⟨by omega, by omega, by omega⟩)]; exact congrArg Value.bool (decide_eq_true c3), rfl⟩
        · repeat (first | ((with_reducible refine Tr.step rfl ?_); (first | ((with_reducible refine Knd.move ?_); (refine Exec.stab rfl (Stab.move rfl) rfl ?_)) | ((with_reducible refine Knd.assign ?_); (refine Exec.stab rfl (Stab.assign rfl) rfl ?_)) | ((with_reducible refine Knd.load ?_); ((refine Exec.stab rfl (Stab.load rfl (tysOk.get rfl) rfl (by repeat (first | exact Has.here | apply Has.there)) rfl) rfl ?_))) | ((with_reducible refine Knd.fieldAddr ?_); ((refine Exec.stab rfl (Stab.fieldZ rfl (tysOk.get rfl) rfl rfl (tysOk.get rfl) rfl) rfl ?_))) | ((with_reducible refine Knd.len ?_); ((refine Exec.stab rfl (Stab.len rfl (tysOk.get rfl) rfl) rfl ?_))) | ((with_reducible refine Knd.binOp ?_); ((refine Exec.stab rfl (Stab.int rfl rfl rfl) rfl ?_))) | ((with_reducible refine Knd.pick ?_); ((refine Exec.stab rfl (Stab.pick_td rfl (by first | (with_reducible assumption) | (with_reducible rfl) | (with_reducible exact (not_not_intro rfl)) | omega) rfl) rfl ?_))))) | (with_reducible refine Tr.next ?_) | (with_reducible refine Tr.seq ?_) | (with_reducible refine Tr.region ?_) | (with_reducible refine Tr.nil ?_) | ((refine Tr.guard_y rfl rfl rfl (by first | (with_reducible assumption) | (with_reducible rfl) | (with_reducible exact (not_not_intro rfl)) | omega) ?_); (first | ((with_reducible refine Knd.move ?_); (refine Exec.stab rfl (Stab.move rfl) rfl ?_)) | ((with_reducible refine Knd.load ?_); ((refine Exec.stab rfl (Stab.load rfl (tysOk.get rfl) rfl (by repeat (first | exact Has.here | apply Has.there)) rfl) rfl ?_))) | ((with_reducible refine Knd.fieldAddr ?_); ((refine Exec.stab rfl (Stab.fieldZ rfl (tysOk.get rfl) rfl rfl (tysOk.get rfl) rfl) rfl ?_))) | ((with_reducible refine Knd.len ?_); ((refine Exec.stab rfl (Stab.len rfl (tysOk.get rfl) rfl) rfl ?_))) | ((with_reducible refine Knd.binOp ?_); ((refine Exec.stab rfl (Stab.int rfl rfl rfl) rfl ?_))))) | (with_reducible refine Tr.exit ?_) | (with_reducible refine Tr.ret ?_) | (with_reducible refine Tr.then_exit ?_) | ((with_reducible refine Tr.in_exit ?_ ?_); (exact rfl)) | (refine Tr.cond_f rfl (by first | (with_reducible assumption) | (with_reducible rfl) | (with_reducible exact (not_not_intro rfl)) | omega) ?_))
          (refine Tr.done (by first | exact .inl rfl | exact .inr rfl) rfl (by repeat (first | exact RVs.nil | (apply RVs.cons; (exact RV.tmp rfl)))) (by first | exact Mem.le.refl _ | assumption) (by exact ⟨[_], rfl⟩) ⟨rfl, ?_⟩)
          exact ⟨by rw [decide_eq_false (show ¬ fewP d l from fun h => c3 (by have := h.2.2; omega))]; exact congrArg Value.bool (decide_eq_false c3), rfl⟩
      · repeat (first | ((with_reducible refine Tr.step rfl ?_); (first | ((with_reducible refine Knd.move ?_); (refine Exec.stab rfl (Stab.move rfl) rfl ?_)) | ((with_reducible refine Knd.assign ?_); (refine Exec.stab rfl (Stab.assign rfl) rfl ?_)) | ((with_reducible refine Knd.load ?_); ((refine Exec.stab rfl (Stab.load rfl (tysOk.get rfl) rfl (by repeat (first | exact Has.here | apply Has.there)) rfl) rfl ?_))) | ((with_reducible refine Knd.fieldAddr ?_); ((refine Exec.stab rfl (Stab.fieldZ rfl (tysOk.get rfl) rfl rfl (tysOk.get rfl) rfl) rfl ?_))) | ((with_reducible refine Knd.len ?_); ((refine Exec.stab rfl (Stab.len rfl (tysOk.get rfl) rfl) rfl ?_))) | ((with_reducible refine Knd.binOp ?_); ((refine Exec.stab rfl (Stab.int rfl rfl rfl) rfl ?_))) | ((with_reducible refine Knd.pick ?_); (first | (refine Exec.stab rfl (Stab.pick_td rfl (by first | (with_reducible assumption) | (with_reducible rfl) | (with_reducible exact (not_not_intro rfl)) | omega) rfl) rfl ?_) | (refine Exec.stab rfl (Stab.pick_fd rfl (by first | (with_reducible assumption) | (with_reducible rfl) | (with_reducible exact (not_not_intro rfl)) | omega) rfl) rfl ?_))))) | (with_reducible refine Tr.next ?_) | (with_reducible refine Tr.seq ?_) | (with_reducible refine Tr.region ?_) | (with_reducible refine Tr.nil ?_) | ((refine Tr.guard_y rfl rfl rfl (by first | (with_reducible assumption) | (with_reducible rfl) | (with_reducible exact (not_not_intro rfl)) | omega) ?_); (first | ((with_reducible refine Knd.load ?_); ((refine Exec.stab rfl (Stab.load rfl (tysOk.get rfl) rfl (by repeat (first | exact Has.here | apply Has.there)) rfl) rfl ?_))) | ((with_reducible refine Knd.fieldAddr ?_); ((refine Exec.stab rfl (Stab.fieldZ rfl (tysOk.get rfl) rfl rfl (tysOk.get rfl) rfl) rfl ?_))) | ((with_reducible refine Knd.len ?_); ((refine Exec.stab rfl (Stab.len rfl (tysOk.get rfl) rfl) rfl ?_))) | ((with_reducible refine Knd.binOp ?_); ((refine Exec.stab rfl (Stab.int rfl rfl rfl) rfl ?_))))) | (refine Tr.guard_n rfl rfl rfl (by first | (with_reducible assumption) | (with_reducible rfl) | (with_reducible exact (not_not_intro rfl)) | omega) rfl rfl ?_) | (with_reducible refine Tr.exit ?_) | (with_reducible refine Tr.ret ?_) | (with_reducible refine Tr.then_exit ?_) | ((with_reducible refine Tr.in_exit ?_ ?_); (exact rfl)) | (refine Tr.cond_f rfl (by first | (with_reducible assumption) | (with_reducible rfl) | (with_reducible exact (not_not_intro rfl)) | omega) ?_))
        (refine Tr.done (by first | exact .inl rfl | exact .inr rfl) rfl (by repeat (first | exact RVs.nil | (apply RVs.cons; (exact RV.tmp rfl)))) (by first | exact Mem.le.refl _ | assumption) (by exact ⟨[_], rfl⟩) ⟨rfl, ?_⟩)
        exact ⟨by rw [decide_eq_false (show ¬ fewP d l from fun h => c2 (by have := h.2.1; omega))]; rfl, rfl⟩
    · repeat (first | ((with_reducible refine Tr.step rfl ?_); (first | ((with_reducible refine Knd.move ?_); (refine Exec.stab rfl (Stab.move rfl) rfl ?_)) | ((with_reducible refine Knd.assign ?_); (refine Exec.stab rfl (Stab.assign rfl) rfl ?_)) | ((with_reducible refine Knd.load ?_); ((refine Exec.stab rfl (Stab.load rfl (tysOk.get rfl) rfl (by repeat (first | exact Has.here | apply Has.there)) rfl) rfl ?_))) | ((with_reducible refine Knd.fieldAddr ?_); ((refine Exec.stab rfl (Stab.fieldZ rfl (tysOk.get rfl) rfl rfl (tysOk.get rfl) rfl) rfl ?_))) | ((with_reducible refine Knd.len ?_); ((refine Exec.stab rfl (Stab.len rfl (tysOk.get rfl) rfl) rfl ?_))) | ((with_reducible refine Knd.binOp ?_); ((refine Exec.stab rfl (Stab.int rfl rfl rfl) rfl ?_))) | ((with_reducible refine Knd.pick ?_); (first | (refine Exec.stab rfl (Stab.pick_f rfl (by first | (with_reducible rfl) | (with_reducible assumption) | (with_reducible exact Bool.not_true) | (with_reducible exact Bool.not_false)) rfl) rfl ?_) | (refine Exec.stab rfl (Stab.pick_fd rfl (by first | (with_reducible assumption) | (with_reducible rfl) | (with_reducible exact (not_not_intro rfl)) | omega) rfl) rfl ?_))))) | (with_reducible refine Tr.next ?_) | (with_reducible refine Tr.seq ?_) | (with_reducible refine Tr.region ?_) | (with_reducible refine Tr.nil ?_) | (refine Tr.guard_s1 rfl rfl rfl (by first | (with_reducible rfl) | (with_reducible assumption) | (with_reducible exact Bool.not_true) | (with_reducible exact Bool.not_false)) rfl rfl ?_) | (refine Tr.guard_n rfl rfl rfl (by first | (with_reducible assumption) | (with_reducible rfl) | (with_reducible exact (not_not_intro rfl)) | omega) rfl rfl ?_) | (with_reducible refine Tr.exit ?_) | (with_reducible refine Tr.ret ?_) | (with_reducible refine Tr.then_exit ?_) | ((with_reducible refine Tr.in_exit ?_ ?_); (exact rfl)) | (refine Tr.cond_f rfl (by first | (with_reducible assumption) | (with_reducible rfl) | (with_reducible exact (not_not_intro rfl)) | omega) ?_))
      (refine Tr.done (by first | exact .inl rfl | exact .inr rfl) rfl (by repeat (first | exact RVs.nil | (apply RVs.cons; (exact RV.tmp rfl)))) (by first | exact Mem.le.refl _ | assumption) (by exact ⟨[_], rfl⟩) ⟨rfl, ?_⟩)
      exact ⟨by rw [decide_eq_false (show ¬ fewP d l from fun h => c1 (by have := h.1; omega))]; rfl, rfl⟩

end Go.Proofs.Ytkbggengagockaa
/-
  The journal: records appended one after the other, as far as they fit.
  Conditions: none.
-/
namespace Go.Proofs.Ytkbggengagockaa
open Go Bf
attribute [local irreducible] Tr Exec Stab HasTy Go.Addr.add IntKind.wrap
def addF (j : Jr) (l : List (List UInt8)) : Jr := l.foldl (fun j x => if (appF j x).2 = 0 then (appF j x).1 else j) j
/-- the records that are accepted, of so many sectors, so many used -/
def accF (m : Int) : Nat → List (List UInt8) → List (List UInt8)
  | _, [] => []
  | u, x :: l => if ((occ x.length : Nat) : Int) ≤ m - (u : Int) then x :: accF m (u + occ x.length) l else accF m u l
theorem addF_take {j : Jr} {l : List (List UInt8)} {i : Nat} {x : List UInt8} (h : l[i]? = some x) : addF j (l.take (i + 1)) = if (appF (addF j (l.take i)) x).2 = 0 then (appF (addF j (l.take i)) x).1 else addF j (l.take i) := by
  rw [List.take_add_one, h]
  simp only [addF, List.foldl_append, Option.toList_some, List.foldl_cons, List.foldl_nil]
  rfl
theorem appF_ok {j : Jr} (hk : okJ j) (x : List UInt8) : appF j x = if ((occ x.length : Nat) : Int) ≤ j.many - ((occs j.rcs : Nat) : Int) then (⟨j.many, j.syn, j.rcs ++ [x]⟩, 0) else (zJ, 2) := by
  rw [appF, if_pos hk]
theorem occs_append (a b : List (List UInt8)) : occs (a ++ b) = occs a + occs b := by simp only [occs, List.map_append, List.sum_append]
theorem okJ_snoc {j : Jr} (hk : okJ j) {x : List UInt8} (h : ((occ x.length : Nat) : Int) ≤ j.many - ((occs j.rcs : Nat) : Int)) : okJ ⟨j.many, j.syn, j.rcs ++ [x]⟩ := by
  obtain ⟨k1, k2, k3, k4, k5⟩ := hk
  refine ⟨k1, k2, k3, ?_, ?_⟩
  · show j.syn ≤ ((j.rcs ++ [x]).length : Int)
    rw [List.length_append, List.length_singleton]; omega
  · show ((occs (j.rcs ++ [x]) : Nat) : Int) ≤ j.many
    rw [occs_append, show occs [x] = occ x.length by simp [occs]]; omega
theorem addF_acc : ∀ (l : List (List UInt8)) {j : Jr}, okJ j → addF j l = ⟨j.many, j.syn, j.rcs ++ accF j.many (occs j.rcs) l⟩ ∧ okJ (addF j l)
  | [], j, hk => by
    have e : addF j [] = j := rfl
    rw [e, accF, List.append_nil]
    exact ⟨rfl, hk⟩
  | x :: l, j, hk => by
    have e : addF j (x :: l) = addF (if (appF j x).2 = 0 then (appF j x).1 else j) l := rfl
    rw [e, accF]
    by_cases h : ((occ x.length : Nat) : Int) ≤ j.many - ((occs j.rcs : Nat) : Int)
    · have e2 : (if (appF j x).2 = 0 then (appF j x).1 else j) = ⟨j.many, j.syn, j.rcs ++ [x]⟩ := by rw [appF_ok hk, if_pos h, if_pos rfl]
      rw [e2, if_pos h]
      obtain ⟨i1, i2⟩ := addF_acc l (okJ_snoc hk h)
      refine ⟨?_, i2⟩
      rw [i1]
      show (⟨j.many, j.syn, (j.rcs ++ [x]) ++ accF j.many (occs (j.rcs ++ [x])) l⟩ : Jr) = _
      rw [occs_append, show occs [x] = occ x.length by simp [occs], List.append_assoc]
      rfl
    · have e2 : (if (appF j x).2 = 0 then (appF j x).1 else j) = j := by rw [appF_ok hk, if_neg h, if_neg (by decide)]
      rw [e2, if_neg h]
      exact addF_acc l hk
theorem addF_ok {j : Jr} (hk : okJ j) (l : List (List UInt8)) : okJ (addF j l) := (addF_acc l hk).2
theorem okJ_small {j : Jr} (hk : okJ j) : occs j.rcs ≤ 4096 ∧ j.rcs.length ≤ 4096 := by
  obtain ⟨k1, k2, k3, k4, k5⟩ := hk
  have h : j.rcs.length ≤ occs j.rcs := by
    generalize j.rcs = l
    induction l with
    | nil => exact Nat.le_refl _
    | cons b l ih => rw [occs_cons, List.length_cons]; have := occ_pos b.length; omega
  omega
theorem get_tot {l : List (List UInt8)} {i : Nat} {x : List UInt8} (h : l[i]? = some x) : x.length + 1 ≤ tot l := by
  have h1 := tot_take h
  have h2 := tot_le l (i + 1)
  omega

set_option maxHeartbeats 4000000 in
theorem add_fn (M : Mem) (v : Value) (j : Jr) (A : Option Addr) (c : Nat) (l : List (List UInt8)) (hj : RJr M v j) (h : SlOf 1 RSec M (.slice A l.length c) l) (hk : okJ j) (ht : tot l ≤ 1048576) :
    Fn0 Try.prog 28 [v, .slice A l.length c] M (fun r M' => RJr M' r (addF j l)) := by
  have hJ := hj
  obtain ⟨A0, c0, rfl, h0⟩ := hj
  have hl := h.len_le
  refine Fn.intro Try.func28 rfl rfl Try.ntmps28 rfl fun E F => ?_
  repeat (first | ((with_reducible refine Tr.step rfl ?_); (first | ((with_reducible refine Knd.move ?_); (refine Exec.stab rfl (Stab.move rfl) rfl ?_)) | ((with_reducible refine Knd.len ?_); ((refine Exec.stab rfl (Stab.len rfl (tysOk.get rfl) rfl) rfl ?_))) | ((with_reducible refine Knd.box ?_); (first | (refine Exec.box rfl rfl (fun b => ?_)) | (refine Exec.box1 rfl (by first | rfl | assumption) rfl (fun b => ?_)))) | ((with_reducible refine Knd.alloc ?_); (first | (refine Exec.alloc (tysOk.get rfl) rfl rfl (fun b => ?_)) | (refine Exec.alloc1 (tysOk.get rfl) rfl rfl rfl (fun b => ?_)))))) | (with_reducible refine Tr.next ?_) | (with_reducible refine Tr.seq ?_) | (with_reducible refine Tr.region ?_) | (with_reducible refine Tr.nil ?_) | (with_reducible refine Tr.block ?_))
  rename_i bj
  generalize b = bx
  refine Tr.loop (α := Nat × Mem × Option Addr × Nat) (fun y => ⟨26, [(11, .int .i64 y.1), (10, .int .i64 l.length), (9, .slice A l.length c), (4, .pointer (some ⟨bx, 0, none⟩)), (2, .pointer (some ⟨bj, 0, none⟩))], [], y.2.1, box bx 29 [.int .i64 0, .int .i64 0, .slice none 0 0] :: box bj 29 [.int .i64 (addF j (l.take y.1)).many, .int .i64 (addF j (l.take y.1)).syn, .slice y.2.2.1 (addF j (l.take y.1)).rcs.length y.2.2.2] :: ([] ++ F)⟩)
    (fun y => y.1 ≤ l.length ∧ Mem.le M y.2.1 ∧ RJr y.2.1 (.agg #[.int .i64 (addF j (l.take y.1)).many, .int .i64 (addF j (l.take y.1)).syn, .slice y.2.2.1 (addF j (l.take y.1)).rcs.length y.2.2.2]) (addF j (l.take y.1))) (fun y => l.length - y.1) (0, M, A0, c0) ⟨Nat.zero_le _, Mem.le.refl _, hJ⟩ (holds_sub (by repeat (first | exact SubFr.nil | refine SubFr.cons rfl ?_)) (by repeat (first | exact DropL.refl | apply DropL.skip))) (fun y hy => ?_)
  obtain ⟨i, M1, A1, c1⟩ := y
  obtain ⟨hi, hm1, hJ1⟩ := hy
  simp only at hi hm1 hJ1
  dsimp only
  by_cases hlt : i < l.length
  · obtain ⟨x, hx⟩ := get_of_lt hlt
    obtain ⟨hA, ch, hat, A2, k2, rfl, hxb⟩ := (h.mono RSec.mono hm1).elem hx
    have hst := addF_take (j := j) hx
    have hki := addF_ok hk (l.take i)
    have hsm := okJ_small hki
    have htx := get_tot hx
    generalize addF j (l.take i) = ji at hJ1 hst hki hsm
    generalize hjn : addF j (l.take (i + 1)) = jn at hst
    have happ := append_fn M1 _ ji A2 k2 x hJ1 hxb (by omega) (by omega) (by omega)
    repeat (first | ((with_reducible refine Tr.step rfl ?_); (first | ((with_reducible refine Knd.move ?_); (refine Exec.stab rfl (Stab.move rfl) rfl ?_)) | ((with_reducible refine Knd.assign ?_); (refine Exec.stab rfl (Stab.assign rfl) rfl ?_)) | ((with_reducible refine Knd.load ?_); (first | (refine Exec.stab rfl (Stab.loadW rfl (tysOk.get rfl) rfl (by repeat (first | exact Has.here | apply Has.there)) rfl) rfl ?_) | (refine Exec.stab rfl (Stab.loadM rfl (tysOk.get rfl) rfl (by assumption)) rfl ?_))) | ((with_reducible refine Knd.binOp ?_); ((refine Exec.stab rfl (Stab.int rfl rfl rfl) rfl ?_))) | ((with_reducible refine Knd.indexAddr ?_); ((refine Exec.stab rfl (Stab.indexAddr rfl rfl (tysOk.get rfl) rfl (tysOk.get rfl) rfl (by omega) (by omega) (by first | rfl | assumption)) rfl ?_))))) | (with_reducible refine Tr.next ?_) | (with_reducible refine Tr.seq ?_) | (with_reducible refine Tr.region ?_) | (with_reducible refine Tr.nil ?_) | (with_reducible refine Tr.skip ?_) | (with_reducible refine Tr.block ?_) | (refine Tr.cond_t rfl (by first | (with_reducible assumption) | (with_reducible rfl) | (with_reducible exact (not_not_intro rfl)) | omega) ?_))
    ((refine Tr.step rfl ?_)); refine Exec.call0 rfl (happ) rfl ?_
    rintro _ M2 hm2 hP
    generalize appF ji x = p at hP hst
    obtain ⟨q, e⟩ := p
    obtain ⟨A3, c3, rfl, hq⟩ := hP.openJ
    simp only at hst
    by_cases he : e = 0
    · rw [if_pos he] at hst
      subst hst
      repeat (first | ((with_reducible refine Tr.step rfl ?_); (first | ((with_reducible refine Knd.move ?_); (refine Exec.stab rfl (Stab.move rfl) rfl ?_)) | ((with_reducible refine Knd.assign ?_); (refine Exec.stab rfl (Stab.assign rfl) rfl ?_)) | ((with_reducible refine Knd.load ?_); ((refine Exec.stab rfl (Stab.loadW rfl (tysOk.get rfl) rfl (by repeat (first | exact Has.here | apply Has.there)) rfl) rfl ?_))) | ((with_reducible refine Knd.binOp ?_); (first | (refine Exec.stab rfl (Stab.addi rfl rfl (by omega)) rfl ?_) | (refine Exec.stab rfl (Stab.int rfl rfl rfl) rfl ?_))) | ((with_reducible refine Knd.store ?_); ((refine Exec.storeW rfl rfl (tysOk.get rfl) (by repeat (first | exact Upd.here | apply Upd.there)) rfl rfl (by repeat (first | exact AllOne.nil | refine AllOne.cons (by first | rfl | assumption) ?_)) ?_))) | ((with_reducible refine Knd.alloc ?_); (first | (refine Exec.alloc (tysOk.get rfl) rfl rfl (fun b => ?_)) | (refine Exec.alloc1 (tysOk.get rfl) rfl rfl rfl (fun b => ?_)))) | ((with_reducible refine Knd.extract ?_); (refine Exec.stab rfl (Stab.extract rfl rfl) rfl ?_)))) | (with_reducible refine Tr.next ?_) | (with_reducible refine Tr.seq ?_) | (with_reducible refine Tr.region ?_) | (with_reducible refine Tr.nil ?_) | (with_reducible refine Tr.in_normal ?_) | (refine Tr.cond_t rfl (by first | (with_reducible assumption) | (with_reducible rfl) | (with_reducible exact (not_not_intro rfl)) | omega) ?_))
      refine Tr.give (r := box _ 29 [_, _, _]) (by repeat (first | exact Del.here | apply Del.there)) ?_
      refine Tr.again (i + 1, M2, A3, c3) ⟨by simp only; omega, hm1.trans hm2, by simp only; rw [hjn]; exact hq⟩ (by simp only; omega) ?_
      simp only
      rw [hjn]
      exact (holds_sub (by repeat (first | exact SubFr.nil | refine SubFr.cons rfl ?_)) (by repeat (first | exact DropL.refl | apply DropL.skip)))
    · rw [if_neg he] at hst
      subst hst
      repeat (first | ((with_reducible refine Tr.step rfl ?_); (first | ((with_reducible refine Knd.move ?_); (refine Exec.stab rfl (Stab.move rfl) rfl ?_)) | ((with_reducible refine Knd.assign ?_); (refine Exec.stab rfl (Stab.assign rfl) rfl ?_)) | ((with_reducible refine Knd.binOp ?_); (first | (refine Exec.stab rfl (Stab.addi rfl rfl (by omega)) rfl ?_) | (refine Exec.stab rfl (Stab.int rfl rfl rfl) rfl ?_))) | ((with_reducible refine Knd.store ?_); ((refine Exec.storeW rfl rfl (tysOk.get rfl) (by repeat (first | exact Upd.here | apply Upd.there)) rfl rfl (by repeat (first | exact AllOne.nil | refine AllOne.cons (by first | rfl | assumption) ?_)) ?_))) | ((with_reducible refine Knd.alloc ?_); (first | (refine Exec.alloc (tysOk.get rfl) rfl rfl (fun b => ?_)) | (refine Exec.alloc1 (tysOk.get rfl) rfl rfl rfl (fun b => ?_)))) | ((with_reducible refine Knd.extract ?_); (refine Exec.stab rfl (Stab.extract rfl rfl) rfl ?_)))) | (with_reducible refine Tr.next ?_) | (with_reducible refine Tr.seq ?_) | (with_reducible refine Tr.region ?_) | (with_reducible refine Tr.nil ?_) | (with_reducible refine Tr.skip ?_) | (with_reducible refine Tr.in_normal ?_) | (refine Tr.cond_f rfl (by first | (with_reducible assumption) | (with_reducible rfl) | (with_reducible exact (not_not_intro rfl)) | omega) ?_))
      refine Tr.give (r := box _ 29 [_, _, _]) (by repeat (first | exact Del.here | apply Del.there)) ?_
      refine Tr.again (i + 1, M2, A1, c1) ⟨by simp only; omega, hm1.trans hm2, by simp only; rw [hjn]; exact hJ1.mono hm2⟩ (by simp only; omega) ?_
      simp only
      rw [hjn]
      exact (holds_sub (by repeat (first | exact SubFr.nil | refine SubFr.cons rfl ?_)) (by repeat (first | exact DropL.refl | apply DropL.skip)))
  · have e : i = l.length := by omega
    subst e
    rw [List.take_length] at hJ1 ⊢
    repeat (first | ((with_reducible refine Tr.step rfl ?_); (first | ((with_reducible refine Knd.load ?_); ((refine Exec.stab rfl (Stab.loadW rfl (tysOk.get rfl) rfl (by repeat (first | exact Has.here | apply Has.there)) rfl) rfl ?_))) | ((with_reducible refine Knd.binOp ?_); ((refine Exec.stab rfl (Stab.int rfl rfl rfl) rfl ?_))) | ((with_reducible refine Knd.store ?_); ((refine Exec.storeW rfl rfl (tysOk.get rfl) (by repeat (first | exact Upd.here | apply Upd.there)) rfl rfl (by repeat (first | exact AllOne.nil | refine AllOne.cons (by first | rfl | assumption) ?_)) ?_))))) | (with_reducible refine Tr.next ?_) | (with_reducible refine Tr.seq ?_) | (with_reducible refine Tr.region ?_) | (with_reducible refine Tr.nil ?_) | (with_reducible refine Tr.exit ?_) | (with_reducible refine Tr.ret ?_) | (with_reducible refine Tr.then_exit ?_) | ((with_reducible refine Tr.in_exit ?_ ?_); (exact rfl)) | (refine Tr.cond_f rfl (by first | (with_reducible assumption) | (with_reducible rfl) | (with_reducible exact (not_not_intro rfl)) | omega) ?_))
    (refine Tr.done (by first | exact .inl rfl | exact .inr rfl) rfl (by repeat (first | exact RVs.nil | (apply RVs.cons; (exact RV.cellW (by rfl) (tysOk.get (by rfl)) (by rfl) (by repeat (first | exact Has.here | apply Has.there)) (by first | rfl | assumption))))) (by first | exact Mem.le.refl _ | assumption) (by exact ⟨[_, _], rfl⟩) ⟨rfl, ?_⟩)
    exact hJ1
end Go.Proofs.Ytkbggengagockaa
/-
  The journal: the specification's Check, Room, Append, and the comparison of records.
  Conditions: none.
-/
namespace Go.Proofs.Ytkbggengagockaa
open Go Bf
attribute [local irreducible] Tr Exec Stab HasTy Go.Addr.add IntKind.wrap
theorem zeros0_appJ (z l : List Value) : zerosL z 0 ++ l = l := rfl
set_option maxHeartbeats 1000000 in
theorem sectors_fn (M : Mem) (n : Nat) (hn : n ≤ 9223372036854775000) :
    Fn0 Try.prog 40 [.int .i64 (n : Int)] M (fun r M' => r = .int .i64 ((occ n : Nat) : Int) ∧ M = M') := by
  refine Fn.intro Try.func40 rfl rfl Try.ntmps40 rfl fun E F => ?_
  repeat (first | ((with_reducible refine Tr.step rfl ?_); (first | ((with_reducible refine Knd.move ?_); (refine Exec.stab rfl (Stab.move rfl) rfl ?_)) | ((with_reducible refine Knd.assign ?_); (refine Exec.stab rfl (Stab.assign rfl) rfl ?_)) | ((with_reducible refine Knd.max ?_); (refine Exec.stab rfl (Stab.max2 rfl rfl) rfl ?_)) | ((with_reducible refine Knd.binOp ?_); (first | (refine Exec.stab rfl (Stab.addi rfl rfl (by omega)) rfl ?_) | (refine Exec.stab rfl (Stab.subi rfl rfl (by omega)) rfl ?_) | (refine Exec.stab rfl (Stab.quoi rfl rfl (by omega) (by omega) (by omega)) rfl ?_))))) | (with_reducible refine Tr.next ?_) | (with_reducible refine Tr.seq ?_) | (with_reducible refine Tr.region ?_) | (with_reducible refine Tr.nil ?_) | (with_reducible refine Tr.ret ?_))
  (refine Tr.done (by first | exact .inl rfl | exact .inr rfl) rfl (by repeat (first | exact RVs.nil | (apply RVs.cons; (exact RV.tmp rfl)))) (by first | exact Mem.le.refl _ | assumption) (by exact ⟨[], rfl⟩) ⟨rfl, ?_⟩)
  refine ⟨?_, rfl⟩
  have e : max (1 : Int) (((n : Int) + 112 - 1) / 112) = ((occ n : Nat) : Int) := by unfold occ; omega
  exact congrArg (Value.int .i64) e
set_option maxHeartbeats 1000000 in
theorem used_fn (M : Mem) (A : Option Addr) (c : Nat) (l : List (List UInt8)) (h : SlOf 1 RSec M (.slice A l.length c) l) (hb : occs l ≤ 1000000000) :
    Fn0 Try.prog 41 [.slice A l.length c] M (fun r M' => r = .int .i64 ((occs l : Nat) : Int) ∧ M = M') := by
  have hl := h.len_le
  refine Fn.intro Try.func41 rfl rfl Try.ntmps41 rfl fun E F => ?_
  repeat (first | ((with_reducible refine Tr.step rfl ?_); (((with_reducible refine Knd.assign ?_); (refine Exec.stab rfl (Stab.assign rfl) rfl ?_)))) | (with_reducible refine Tr.next ?_) | (with_reducible refine Tr.seq ?_) | (with_reducible refine Tr.region ?_) | (with_reducible refine Tr.nil ?_) | (with_reducible refine Tr.block ?_))
  refine Tr.loop (α := Nat) (fun i => ⟨20, [(4, .int .i64 i), (3, .int .i64 ((occs (l.take i) : Nat) : Int)), (0, .slice A l.length c)], [], M, _⟩) (fun i => i ≤ l.length) (fun i => l.length - i) 0 (Nat.zero_le _) (holds_sub (by repeat (first | exact SubFr.nil | refine SubFr.cons rfl ?_)) (by repeat (first | exact DropL.refl | apply DropL.skip))) (fun i hi => ?_)
  by_cases hlt : i < l.length
  · obtain ⟨x, hx⟩ := get_of_lt hlt
    obtain ⟨hA, ch, hat, A1, k1, rfl, hxb⟩ := h.elem hx
    have hst := occs_take hx
    have hle := occs_le l (i + 1)
    have hx2 := occ_le x.length
    repeat (first | ((with_reducible refine Tr.step rfl ?_); (first | ((with_reducible refine Knd.move ?_); (refine Exec.stab rfl (Stab.move rfl) rfl ?_)) | ((with_reducible refine Knd.load ?_); ((refine Exec.stab rfl (Stab.loadM rfl (tysOk.get rfl) rfl (by assumption)) rfl ?_))) | ((with_reducible refine Knd.len ?_); ((refine Exec.stab rfl (Stab.len rfl (tysOk.get rfl) rfl) rfl ?_))) | ((with_reducible refine Knd.binOp ?_); ((refine Exec.stab rfl (Stab.int rfl rfl rfl) rfl ?_))) | ((with_reducible refine Knd.indexAddr ?_); ((refine Exec.stab rfl (Stab.indexAddr rfl rfl (tysOk.get rfl) rfl (tysOk.get rfl) rfl (by omega) (by omega) (by first | rfl | assumption)) rfl ?_))))) | (with_reducible refine Tr.next ?_) | (with_reducible refine Tr.seq ?_) | (with_reducible refine Tr.region ?_) | (with_reducible refine Tr.nil ?_) | (with_reducible refine Tr.skip ?_) | (with_reducible refine Tr.block ?_) | (refine Tr.cond_t rfl (by first | (with_reducible assumption) | (with_reducible rfl) | (with_reducible exact (not_not_intro rfl)) | omega) ?_))
    ((refine Tr.step rfl ?_)); refine Exec.call0 rfl (sectors_fn M x.length (by omega)) rfl ?_
    rintro _ _ _ ⟨rfl, rfl⟩
    repeat (first | ((with_reducible refine Tr.step rfl ?_); (first | ((with_reducible refine Knd.move ?_); (refine Exec.stab rfl (Stab.move rfl) rfl ?_)) | ((with_reducible refine Knd.assign ?_); (refine Exec.stab rfl (Stab.assign rfl) rfl ?_)) | ((with_reducible refine Knd.binOp ?_); ((refine Exec.stab rfl (Stab.addi rfl rfl (by omega)) rfl ?_))))) | (with_reducible refine Tr.next ?_) | (with_reducible refine Tr.region ?_) | (with_reducible refine Tr.nil ?_) | (with_reducible refine Tr.in_normal ?_))
    have e : ((occs (l.take i) : Nat) : Int) + ((occ x.length : Nat) : Int) = ((occs (l.take (i + 1)) : Nat) : Int) := by omega
    rw [e]
    refine Tr.again (i + 1) (by omega) (by omega) (holds_sub (by repeat (first | exact SubFr.nil | refine SubFr.cons rfl ?_)) (by repeat (first | exact DropL.refl | apply DropL.skip)))
  · have e : i = l.length := by omega
    subst e
    rw [List.take_length]
    repeat (first | ((with_reducible refine Tr.step rfl ?_); (first | ((with_reducible refine Knd.move ?_); (refine Exec.stab rfl (Stab.move rfl) rfl ?_)) | ((with_reducible refine Knd.assign ?_); (refine Exec.stab rfl (Stab.assign rfl) rfl ?_)) | ((with_reducible refine Knd.len ?_); ((refine Exec.stab rfl (Stab.len rfl (tysOk.get rfl) rfl) rfl ?_))) | ((with_reducible refine Knd.binOp ?_); ((refine Exec.stab rfl (Stab.int rfl rfl rfl) rfl ?_))))) | (with_reducible refine Tr.next ?_) | (with_reducible refine Tr.seq ?_) | (with_reducible refine Tr.region ?_) | (with_reducible refine Tr.nil ?_) | (with_reducible refine Tr.exit ?_) | (with_reducible refine Tr.ret ?_) | (with_reducible refine Tr.then_exit ?_) | ((with_reducible refine Tr.in_exit ?_ ?_); (exact rfl)) | (refine Tr.cond_f rfl (by first | (with_reducible assumption) | (with_reducible rfl) | (with_reducible exact (not_not_intro rfl)) | omega) ?_))
    (refine Tr.done (by first | exact .inl rfl | exact .inr rfl) rfl (by repeat (first | exact RVs.nil | (apply RVs.cons; (exact RV.tmp rfl)))) (by first | exact Mem.le.refl _ | assumption) (by exact ⟨[], rfl⟩) ⟨rfl, ?_⟩)
    exact ⟨rfl, rfl⟩
set_option maxHeartbeats 1000000 in
theorem sameR_fn (M : Mem) (A B : Option Addr) (c k : Nat) (l m : List (List UInt8)) (h1 : SlOf 1 RSec M (.slice A l.length c) l) (h2 : SlOf 1 RSec M (.slice B m.length k) m) :
    Fn0 Try.prog 24 [.slice A l.length c, .slice B m.length k] M (fun r M' => r = .bool (decide (l = m)) ∧ M = M') := by
  have l1 := h1.len_le
  have l2 := h2.len_le
  refine Fn.intro Try.func24 rfl rfl Try.ntmps24 rfl fun E F => ?_
  by_cases c1 : (l.length : Int) ≠ (m.length : Int)
  · repeat (first | ((with_reducible refine Tr.step rfl ?_); (first | ((with_reducible refine Knd.move ?_); (refine Exec.stab rfl (Stab.move rfl) rfl ?_)) | ((with_reducible refine Knd.assign ?_); (refine Exec.stab rfl (Stab.assign rfl) rfl ?_)) | ((with_reducible refine Knd.len ?_); ((refine Exec.stab rfl (Stab.len rfl (tysOk.get rfl) rfl) rfl ?_))) | ((with_reducible refine Knd.binOp ?_); ((refine Exec.stab rfl (Stab.int rfl rfl rfl) rfl ?_))))) | (with_reducible refine Tr.next ?_) | (with_reducible refine Tr.seq ?_) | (with_reducible refine Tr.region ?_) | (with_reducible refine Tr.nil ?_) | (with_reducible refine Tr.ret ?_) | (with_reducible refine Tr.then_ret ?_) | (refine Tr.cond_t rfl (by first | (with_reducible assumption) | (with_reducible rfl) | (with_reducible exact (not_not_intro rfl)) | omega) ?_))
    (refine Tr.done (by first | exact .inl rfl | exact .inr rfl) rfl (by repeat (first | exact RVs.nil | (apply RVs.cons; (exact RV.tmp rfl)))) (by first | exact Mem.le.refl _ | assumption) (by exact ⟨[], rfl⟩) ⟨rfl, ?_⟩)
    exact ⟨by rw [decide_eq_false (fun e => c1 (by rw [e]))]; rfl, rfl⟩
  repeat (first | ((with_reducible refine Tr.step rfl ?_); (first | ((with_reducible refine Knd.move ?_); (refine Exec.stab rfl (Stab.move rfl) rfl ?_)) | ((with_reducible refine Knd.assign ?_); (refine Exec.stab rfl (Stab.assign rfl) rfl ?_)) | ((with_reducible refine Knd.len ?_); ((refine Exec.stab rfl (Stab.len rfl (tysOk.get rfl) rfl) rfl ?_))) | ((with_reducible refine Knd.binOp ?_); ((refine Exec.stab rfl (Stab.int rfl rfl rfl) rfl ?_))))) | (with_reducible refine Tr.next ?_) | (with_reducible refine Tr.seq ?_) | (with_reducible refine Tr.region ?_) | (with_reducible refine Tr.nil ?_) | (with_reducible refine Tr.skip ?_) | (with_reducible refine Tr.block ?_) | (refine Tr.cond_f rfl (by first | (with_reducible assumption) | (with_reducible rfl) | (with_reducible exact (not_not_intro rfl)) | omega) ?_))
  refine Tr.loop (α := Nat) (fun i => ⟨28, [(5, .int .i64 i), (0, .slice A l.length c), (1, .slice B m.length k)], [], M, _⟩) (fun i => i ≤ l.length ∧ l.take i = m.take i) (fun i => l.length - i) 0 ⟨Nat.zero_le _, rfl⟩ (holds_sub (by repeat (first | exact SubFr.nil | refine SubFr.cons rfl ?_)) (by repeat (first | exact DropL.refl | apply DropL.skip))) (fun i hi => ?_)
  obtain ⟨hi, heq⟩ := hi
  by_cases hlt : i < l.length
  · obtain ⟨x, hx⟩ := get_of_lt hlt
    obtain ⟨y, hy⟩ := get_of_lt (show i < m.length by omega)
    obtain ⟨hA1, ch1, hat1, A1, k1, rfl, hb1⟩ := h1.elem hx
    obtain ⟨hA2, ch2, hat2, A2, k2, rfl, hb2⟩ := h2.elem hy
    repeat (first | ((with_reducible refine Tr.step rfl ?_); (first | ((with_reducible refine Knd.move ?_); (refine Exec.stab rfl (Stab.move rfl) rfl ?_)) | ((with_reducible refine Knd.len ?_); ((refine Exec.stab rfl (Stab.len rfl (tysOk.get rfl) rfl) rfl ?_))) | ((with_reducible refine Knd.binOp ?_); ((refine Exec.stab rfl (Stab.int rfl rfl rfl) rfl ?_))))) | (with_reducible refine Tr.next ?_) | (with_reducible refine Tr.seq ?_) | (with_reducible refine Tr.region ?_) | (with_reducible refine Tr.nil ?_) | (with_reducible refine Tr.skip ?_) | (with_reducible refine Tr.block ?_) | (refine Tr.cond_t rfl (by first | (with_reducible assumption) | (with_reducible rfl) | (with_reducible exact (not_not_intro rfl)) | omega) ?_))
    (((apply Tr.draw); (kernel_rfl)); (refine TrA.take 0 (by kernel_rfl) rfl (by kernel_rfl) (by first | exact fun _ _ _ h => h | exact fun _ _ _ h => nomatch h.1) (by exact fun _ h => h) rfl (by first | exact Stab.move rfl) rfl rfl ?_); (refine TrA.take 1 (by kernel_rfl) rfl (by kernel_rfl) (by first | exact fun _ _ _ h => h | exact fun _ _ _ h => nomatch h.1) (by exact fun _ h => h) rfl (by first | exact Stab.move rfl) rfl rfl ?_); (refine TrA.take 2 (by kernel_rfl) rfl (by kernel_rfl) (by first | exact fun _ _ _ h => h | exact fun _ _ _ h => nomatch h.1) (by exact fun _ h => h) rfl (by exact Stab.indexAddr rfl rfl (tysOk.get rfl) rfl (tysOk.get rfl) rfl (by omega) (by omega) (by first | rfl | assumption)) rfl rfl ?_); (refine TrA.take 3 (by kernel_rfl) rfl (by kernel_rfl) (by first | exact fun _ _ _ h => h | exact fun _ _ _ h => nomatch h.1) (by exact fun _ h => h) rfl (by exact Stab.loadM rfl (tysOk.get rfl) rfl (by assumption)) rfl rfl ?_); (refine TrA.take 4 (by kernel_rfl) rfl (by kernel_rfl) (by first | exact fun _ _ _ h => h | exact fun _ _ _ h => nomatch h.1) (by exact fun _ h => h) rfl (by exact Stab.bstrB rfl (tysOk.get rfl) (tysOk.get rfl) rfl rfl (tysOk.get rfl) rfl (by assumption)) rfl rfl ?_); (refine TrA.take 5 (by kernel_rfl) rfl (by kernel_rfl) (by first | exact fun _ _ _ h => h | exact fun _ _ _ h => nomatch h.1) (by exact fun _ h => h) rfl (by first | exact Stab.move rfl) rfl rfl ?_); (refine TrA.take 6 (by kernel_rfl) rfl (by kernel_rfl) (by first | exact fun _ _ _ h => h | exact fun _ _ _ h => nomatch h.1) (by exact fun _ h => h) rfl (by first | exact Stab.move rfl) rfl rfl ?_); (refine TrA.take 7 (by kernel_rfl) rfl (by kernel_rfl) (by first | exact fun _ _ _ h => h | exact fun _ _ _ h => nomatch h.1) (by exact fun _ h => h) rfl (by exact Stab.indexAddr rfl rfl (tysOk.get rfl) rfl (tysOk.get rfl) rfl (by omega) (by omega) (by first | rfl | assumption)) rfl rfl ?_); (refine TrA.take 8 (by kernel_rfl) rfl (by kernel_rfl) (by first | exact fun _ _ _ h => h | exact fun _ _ _ h => nomatch h.1) (by exact fun _ h => h) rfl (by exact Stab.loadM rfl (tysOk.get rfl) rfl (by assumption)) rfl rfl ?_); (refine TrA.take 9 (by kernel_rfl) rfl (by kernel_rfl) (by first | exact fun _ _ _ h => h | exact fun _ _ _ h => nomatch h.1) (by exact fun _ h => h) rfl (by exact Stab.bstrB rfl (tysOk.get rfl) (tysOk.get rfl) rfl rfl (tysOk.get rfl) rfl (by assumption)) rfl rfl ?_); (refine TrA.take 10 (by kernel_rfl) rfl (by kernel_rfl) (by first | exact fun _ _ _ h => h | exact fun _ _ _ h => nomatch h.1) (by exact fun _ h => h) rfl (by exact Stab.strne rfl rfl) rfl rfl ?_); (refine TrA.done (by kernel_rfl) ?_))
    by_cases e : x = y
    · have hst := take_stepJ hx hy heq e
      subst e
      repeat (first | ((with_reducible refine Tr.step rfl ?_); (first | ((with_reducible refine Knd.move ?_); (refine Exec.stab rfl (Stab.move rfl) rfl ?_)) | ((with_reducible refine Knd.assign ?_); (refine Exec.stab rfl (Stab.assign rfl) rfl ?_)) | ((with_reducible refine Knd.binOp ?_); ((refine Exec.stab rfl (Stab.addi rfl rfl (by omega)) rfl ?_))))) | (with_reducible refine Tr.next ?_) | (with_reducible refine Tr.region ?_) | (with_reducible refine Tr.nil ?_) | (with_reducible refine Tr.skip ?_) | (with_reducible refine Tr.in_normal ?_) | (refine Tr.cond_f rfl (by first | (with_reducible assumption) | (with_reducible rfl) | (with_reducible exact (not_not_intro rfl)) | omega) ?_))
      refine Tr.again (i + 1) ⟨by omega, hst⟩ (by omega) (holds_sub (by repeat (first | exact SubFr.nil | refine SubFr.cons rfl ?_)) (by repeat (first | exact DropL.refl | apply DropL.skip)))
    · have e' : (⟨x.toArray⟩ : ByteArray).data.toList ≠ (⟨y.toArray⟩ : ByteArray).data.toList := by simpa using e
      have hne : ¬ l = m := fun h => e (by subst h; rw [hx] at hy; exact Option.some.inj hy)
      repeat (first | ((with_reducible refine Tr.step rfl ?_); (((with_reducible refine Knd.assign ?_); (refine Exec.stab rfl (Stab.assign rfl) rfl ?_)))) | (with_reducible refine Tr.next ?_) | (with_reducible refine Tr.seq ?_) | (with_reducible refine Tr.region ?_) | (with_reducible refine Tr.nil ?_) | (with_reducible refine Tr.ret ?_) | (with_reducible refine Tr.then_ret ?_) | (with_reducible refine Tr.in_ret ?_) | (refine Tr.cond_t rfl (by first | (with_reducible assumption) | (with_reducible rfl) | (with_reducible exact (not_not_intro rfl)) | omega) ?_))
      (refine Tr.done (by first | exact .inl rfl | exact .inr rfl) rfl (by repeat (first | exact RVs.nil | (apply RVs.cons; (exact RV.tmp rfl)))) (by first | exact Mem.le.refl _ | assumption) (by exact ⟨[], rfl⟩) ⟨rfl, ?_⟩)
      exact ⟨by rw [decide_eq_false hne]; rfl, rfl⟩
  · have e : i = l.length := by omega
    have hyes : l = m := by
      rw [e, List.take_length] at heq
      rw [heq]
      exact List.take_of_length_le (by omega)
    repeat (first | ((with_reducible refine Tr.step rfl ?_); (first | ((with_reducible refine Knd.move ?_); (refine Exec.stab rfl (Stab.move rfl) rfl ?_)) | ((with_reducible refine Knd.assign ?_); (refine Exec.stab rfl (Stab.assign rfl) rfl ?_)) | ((with_reducible refine Knd.len ?_); ((refine Exec.stab rfl (Stab.len rfl (tysOk.get rfl) rfl) rfl ?_))) | ((with_reducible refine Knd.binOp ?_); ((refine Exec.stab rfl (Stab.int rfl rfl rfl) rfl ?_))))) | (with_reducible refine Tr.next ?_) | (with_reducible refine Tr.seq ?_) | (with_reducible refine Tr.region ?_) | (with_reducible refine Tr.nil ?_) | (with_reducible refine Tr.exit ?_) | (with_reducible refine Tr.ret ?_) | (with_reducible refine Tr.then_exit ?_) | ((with_reducible refine Tr.in_exit ?_ ?_); (exact rfl)) | (refine Tr.cond_f rfl (by first | (with_reducible assumption) | (with_reducible rfl) | (with_reducible exact (not_not_intro rfl)) | omega) ?_))
    (refine Tr.done (by first | exact .inl rfl | exact .inr rfl) rfl (by repeat (first | exact RVs.nil | (apply RVs.cons; (exact RV.tmp rfl)))) (by first | exact Mem.le.refl _ | assumption) (by exact ⟨[], rfl⟩) ⟨rfl, ?_⟩)
    exact ⟨by rw [decide_eq_true hyes]; rfl, rfl⟩
def sameJ (a b : Jr) : Prop := a.many = b.many ∧ a.syn = b.syn ∧ a.rcs = b.rcs
instance (a b : Jr) : Decidable (sameJ a b) := by unfold sameJ; infer_instance
set_option maxHeartbeats 1000000 in
theorem sameJ_y (M : Mem) (v w : Value) (a : Jr) (ha : RJr M v a) (hb : RJr M w a) :
    Fn0 Try.prog 14 [v, w] M (fun r M' => r = .bool true ∧ M = M') := by
  obtain ⟨A, c, rfl, h1⟩ := ha
  obtain ⟨B, k, rfl, h2⟩ := hb
  refine Fn.intro Try.func14 rfl rfl Try.ntmps14 rfl fun E F => ?_
  have hs := sameR_fn M A B c k a.rcs a.rcs h1 h2
  rw [decide_eq_true rfl] at hs
  have e1 : a.many = a.many := rfl
  have e2 : a.syn = a.syn := rfl
  repeat (first | ((with_reducible refine Tr.step rfl ?_); (first | ((with_reducible refine Knd.move ?_); (refine Exec.stab rfl (Stab.move rfl) rfl ?_)) | ((with_reducible refine Knd.assign ?_); (refine Exec.stab rfl (Stab.assign rfl) rfl ?_)) | ((with_reducible refine Knd.load ?_); ((refine Exec.stab rfl (Stab.load rfl (tysOk.get rfl) rfl (by repeat (first | exact Has.here | apply Has.there)) rfl) rfl ?_))) | ((with_reducible refine Knd.fieldAddr ?_); ((refine Exec.stab rfl (Stab.fieldZ rfl (tysOk.get rfl) rfl rfl (tysOk.get rfl) rfl) rfl ?_))) | ((with_reducible refine Knd.binOp ?_); ((refine Exec.stab rfl (Stab.int rfl rfl rfl) rfl ?_))) | ((with_reducible refine Knd.pick ?_); ((refine Exec.stab rfl (Stab.pick_td rfl (by first | (with_reducible assumption) | (with_reducible rfl) | (with_reducible exact (not_not_intro rfl)) | omega) rfl) rfl ?_))) | ((with_reducible refine Knd.box ?_); (first | (refine Exec.box rfl rfl (fun b => ?_)) | (refine Exec.box1 rfl (by first | rfl | assumption) rfl (fun b => ?_)))))) | (with_reducible refine Tr.next ?_) | (with_reducible refine Tr.seq ?_) | (with_reducible refine Tr.region ?_) | (with_reducible refine Tr.nil ?_) | ((refine Tr.guard_y rfl rfl rfl (by first | (with_reducible assumption) | (with_reducible rfl) | (with_reducible exact (not_not_intro rfl)) | omega) ?_); (first | ((with_reducible refine Knd.load ?_); ((refine Exec.stab rfl (Stab.load rfl (tysOk.get rfl) rfl (by repeat (first | exact Has.here | apply Has.there)) rfl) rfl ?_))) | ((with_reducible refine Knd.fieldAddr ?_); ((refine Exec.stab rfl (Stab.fieldZ rfl (tysOk.get rfl) rfl rfl (tysOk.get rfl) rfl) rfl ?_))) | ((with_reducible refine Knd.binOp ?_); ((refine Exec.stab rfl (Stab.int rfl rfl rfl) rfl ?_))))))
  ((refine Tr.guard_y rfl rfl rfl (by first | (with_reducible assumption) | (with_reducible rfl) | (with_reducible exact (not_not_intro rfl)) | omega) ?_)); refine Exec.call0 rfl (hs) rfl ?_
  rintro _ _ _ ⟨rfl, rfl⟩
  repeat (first | ((with_reducible refine Tr.step rfl ?_); (first | ((with_reducible refine Knd.assign ?_); (refine Exec.stab rfl (Stab.assign rfl) rfl ?_)) | ((with_reducible refine Knd.pick ?_); ((refine Exec.stab rfl (Stab.pick_td rfl (by first | (with_reducible assumption) | (with_reducible rfl) | (with_reducible exact (not_not_intro rfl)) | omega) rfl) rfl ?_))))) | (with_reducible refine Tr.next ?_) | (with_reducible refine Tr.nil ?_) | (with_reducible refine Tr.ret ?_))
  (refine Tr.done (by first | exact .inl rfl | exact .inr rfl) rfl (by repeat (first | exact RVs.nil | (apply RVs.cons; (exact RV.tmp rfl)))) (by first | exact Mem.le.refl _ | assumption) (by exact ⟨[_, _], rfl⟩) ⟨rfl, ?_⟩)
  exact ⟨rfl, rfl⟩
end Go.Proofs.Ytkbggengagockaa
/-
  The disk: the contract of the reference's Same.
  Conditions: none.
-/
namespace Go.Proofs.Ytkbggengagockaa
open Go Bf
attribute [local irreducible] Tr Exec Stab HasTy Go.Addr.add IntKind.wrap
def sameP (a b : Dsk) : Prop := a.sec = b.sec ∧ a.pen = b.pen ∧ a.left = b.left ∧ a.stop = b.stop
instance (a b : Dsk) : Decidable (sameP a b) := by unfold sameP; infer_instance
theorem take_step {α : Type} {a b : List α} {i : Nat} {x y : α} (hx : a[i]? = some x) (hy : b[i]? = some y) (h : a.take i = b.take i) (e : x = y) : a.take (i + 1) = b.take (i + 1) := by
  rw [List.take_add_one, List.take_add_one, hx, hy, h, e]
theorem take_full {α : Type} {a b : List α} {i : Nat} (ha : a.length ≤ i) (hb : b.length ≤ i) (h : a.take i = b.take i) : a = b := by
  rwa [List.take_of_length_le ha, List.take_of_length_le hb] at h

set_option maxHeartbeats 2000000 in
theorem same_fn (M : Mem) (v w : Value) (a b : Dsk) (ha : RDisk M v a) (hb : RDisk M w b) :
    Fn0 Try.prog 23 [v, w] M (fun r M' => r = .bool (decide (sameP a b)) ∧ M = M') := by
  obtain ⟨sec1, pen1, left1, stop1⟩ := a
  obtain ⟨sec2, pen2, left2, stop2⟩ := b
  obtain ⟨A, c, B, k, rfl, h1, h2⟩ := ha
  obtain ⟨A', c', B', k', rfl, h3, h4⟩ := hb
  dsimp only at h1 h2 h3 h4 ⊢
  have l1 := h1.len_le
  have l2 := h2.len_le
  have l3 := h3.len_le
  have l4 := h4.len_le
  refine Fn.intro Try.func23 rfl rfl Try.ntmps23 rfl fun E F => ?_
  by_cases c1 : sec1.length = sec2.length
  rotate_left
  · have hn : ¬ sameP ⟨sec1, pen1, left1, stop1⟩ ⟨sec2, pen2, left2, stop2⟩ := fun h => c1 (congrArg List.length h.1)
    repeat (first | ((with_reducible refine Tr.step rfl ?_); (first | ((with_reducible refine Knd.move ?_); (refine Exec.stab rfl (Stab.move rfl) rfl ?_)) | ((with_reducible refine Knd.assign ?_); (refine Exec.stab rfl (Stab.assign rfl) rfl ?_)) | ((with_reducible refine Knd.load ?_); ((refine Exec.stab rfl (Stab.load rfl (tysOk.get rfl) rfl (by repeat (first | exact Has.here | apply Has.there)) rfl) rfl ?_))) | ((with_reducible refine Knd.fieldAddr ?_); ((refine Exec.stab rfl (Stab.fieldZ rfl (tysOk.get rfl) rfl rfl (tysOk.get rfl) rfl) rfl ?_))) | ((with_reducible refine Knd.len ?_); ((refine Exec.stab rfl (Stab.len rfl (tysOk.get rfl) rfl) rfl ?_))) | ((with_reducible refine Knd.binOp ?_); ((refine Exec.stab rfl (Stab.int rfl rfl rfl) rfl ?_))) | ((with_reducible refine Knd.pick ?_); (first | (refine Exec.stab rfl (Stab.pick_t rfl (by first | (with_reducible rfl) | (with_reducible assumption) | (with_reducible exact Bool.not_true) | (with_reducible exact Bool.not_false)) rfl) rfl ?_) | (refine Exec.stab rfl (Stab.pick_td rfl (by first | (with_reducible assumption) | (with_reducible rfl) | (with_reducible exact (not_not_intro rfl)) | omega) rfl) rfl ?_))) | ((with_reducible refine Knd.box ?_); (first | (refine Exec.box rfl rfl (fun b => ?_)) | (refine Exec.box1 rfl (by first | rfl | assumption) rfl (fun b => ?_)))))) | (with_reducible refine Tr.next ?_) | (with_reducible refine Tr.seq ?_) | (with_reducible refine Tr.region ?_) | (with_reducible refine Tr.nil ?_) | (refine Tr.guard_s0 rfl rfl rfl (by first | (with_reducible rfl) | (with_reducible assumption) | (with_reducible exact Bool.not_true) | (with_reducible exact Bool.not_false)) rfl rfl ?_) | (refine Tr.guard_n' rfl rfl rfl (by first | (with_reducible assumption) | (with_reducible rfl) | (with_reducible exact (not_not_intro rfl)) | omega) rfl rfl ?_) | (with_reducible refine Tr.ret ?_) | (with_reducible refine Tr.then_ret ?_) | (refine Tr.cond_bt rfl (by first | (with_reducible rfl) | (with_reducible assumption) | (with_reducible exact Bool.not_true) | (with_reducible exact Bool.not_false)) ?_))
    (refine Tr.done (by first | exact .inl rfl | exact .inr rfl) rfl (by repeat (first | exact RVs.nil | (apply RVs.cons; (exact RV.tmp rfl)))) (by first | exact Mem.le.refl _ | assumption) (by exact ⟨[_, _], rfl⟩) ⟨rfl, ?_⟩)
    exact ⟨by rw [decide_eq_false hn]; rfl, rfl⟩
  by_cases c2 : pen1.length = pen2.length
  rotate_left
  · have hn : ¬ sameP ⟨sec1, pen1, left1, stop1⟩ ⟨sec2, pen2, left2, stop2⟩ := fun h => c2 (congrArg List.length h.2.1)
    repeat (first | ((with_reducible refine Tr.step rfl ?_); (first | ((with_reducible refine Knd.move ?_); (refine Exec.stab rfl (Stab.move rfl) rfl ?_)) | ((with_reducible refine Knd.assign ?_); (refine Exec.stab rfl (Stab.assign rfl) rfl ?_)) | ((with_reducible refine Knd.load ?_); ((refine Exec.stab rfl (Stab.load rfl (tysOk.get rfl) rfl (by repeat (first | exact Has.here | apply Has.there)) rfl) rfl ?_))) | ((with_reducible refine Knd.fieldAddr ?_); ((refine Exec.stab rfl (Stab.fieldZ rfl (tysOk.get rfl) rfl rfl (tysOk.get rfl) rfl) rfl ?_))) | ((with_reducible refine Knd.len ?_); ((refine Exec.stab rfl (Stab.len rfl (tysOk.get rfl) rfl) rfl ?_))) | ((with_reducible refine Knd.binOp ?_); ((refine Exec.stab rfl (Stab.int rfl rfl rfl) rfl ?_))) | ((with_reducible refine Knd.pick ?_); (first | (refine Exec.stab rfl (Stab.pick_t rfl (by first | (with_reducible rfl) | (with_reducible assumption) | (with_reducible exact Bool.not_true) | (with_reducible exact Bool.not_false)) rfl) rfl ?_) | (refine Exec.stab rfl (Stab.pick_td rfl (by first | (with_reducible assumption) | (with_reducible rfl) | (with_reducible exact (not_not_intro rfl)) | omega) rfl) rfl ?_) | (refine Exec.stab rfl (Stab.pick_fd rfl (by first | (with_reducible assumption) | (with_reducible rfl) | (with_reducible exact (not_not_intro rfl)) | omega) rfl) rfl ?_))) | ((with_reducible refine Knd.box ?_); (first | (refine Exec.box rfl rfl (fun b => ?_)) | (refine Exec.box1 rfl (by first | rfl | assumption) rfl (fun b => ?_)))))) | (with_reducible refine Tr.next ?_) | (with_reducible refine Tr.seq ?_) | (with_reducible refine Tr.region ?_) | (with_reducible refine Tr.nil ?_) | (refine Tr.guard_s0 rfl rfl rfl (by first | (with_reducible rfl) | (with_reducible assumption) | (with_reducible exact Bool.not_true) | (with_reducible exact Bool.not_false)) rfl rfl ?_) | ((refine Tr.guard_y' rfl rfl rfl (by first | (with_reducible assumption) | (with_reducible rfl) | (with_reducible exact (not_not_intro rfl)) | omega) ?_); (first | ((with_reducible refine Knd.load ?_); ((refine Exec.stab rfl (Stab.load rfl (tysOk.get rfl) rfl (by repeat (first | exact Has.here | apply Has.there)) rfl) rfl ?_))) | ((with_reducible refine Knd.fieldAddr ?_); ((refine Exec.stab rfl (Stab.fieldZ rfl (tysOk.get rfl) rfl rfl (tysOk.get rfl) rfl) rfl ?_))) | ((with_reducible refine Knd.len ?_); ((refine Exec.stab rfl (Stab.len rfl (tysOk.get rfl) rfl) rfl ?_))) | ((with_reducible refine Knd.binOp ?_); ((refine Exec.stab rfl (Stab.int rfl rfl rfl) rfl ?_))))) | (refine Tr.guard_n' rfl rfl rfl (by first | (with_reducible assumption) | (with_reducible rfl) | (with_reducible exact (not_not_intro rfl)) | omega) rfl rfl ?_) | (with_reducible refine Tr.ret ?_) | (with_reducible refine Tr.then_ret ?_) | (refine Tr.cond_bt rfl (by first | (with_reducible rfl) | (with_reducible assumption) | (with_reducible exact Bool.not_true) | (with_reducible exact Bool.not_false)) ?_))
    (refine Tr.done (by first | exact .inl rfl | exact .inr rfl) rfl (by repeat (first | exact RVs.nil | (apply RVs.cons; (exact RV.tmp rfl)))) (by first | exact Mem.le.refl _ | assumption) (by exact ⟨[_, _], rfl⟩) ⟨rfl, ?_⟩)
    exact ⟨by rw [decide_eq_false hn]; rfl, rfl⟩
  by_cases c3 : left1 = left2
  rotate_left
  · have hn : ¬ sameP ⟨sec1, pen1, left1, stop1⟩ ⟨sec2, pen2, left2, stop2⟩ := fun h => c3 h.2.2.1
    repeat (first | ((with_reducible refine Tr.step rfl ?_); (first | ((with_reducible refine Knd.move ?_); (refine Exec.stab rfl (Stab.move rfl) rfl ?_)) | ((with_reducible refine Knd.assign ?_); (refine Exec.stab rfl (Stab.assign rfl) rfl ?_)) | ((with_reducible refine Knd.load ?_); ((refine Exec.stab rfl (Stab.load rfl (tysOk.get rfl) rfl (by repeat (first | exact Has.here | apply Has.there)) rfl) rfl ?_))) | ((with_reducible refine Knd.fieldAddr ?_); ((refine Exec.stab rfl (Stab.fieldZ rfl (tysOk.get rfl) rfl rfl (tysOk.get rfl) rfl) rfl ?_))) | ((with_reducible refine Knd.len ?_); ((refine Exec.stab rfl (Stab.len rfl (tysOk.get rfl) rfl) rfl ?_))) | ((with_reducible refine Knd.binOp ?_); ((refine Exec.stab rfl (Stab.int rfl rfl rfl) rfl ?_))) | ((with_reducible refine Knd.pick ?_); (first | (refine Exec.stab rfl (Stab.pick_td rfl (by first | (with_reducible assumption) | (with_reducible rfl) | (with_reducible exact (not_not_intro rfl)) | omega) rfl) rfl ?_) | (refine Exec.stab rfl (Stab.pick_fd rfl (by first | (with_reducible assumption) | (with_reducible rfl) | (with_reducible exact (not_not_intro rfl)) | omega) rfl) rfl ?_))) | ((with_reducible refine Knd.box ?_); (first | (refine Exec.box rfl rfl (fun b => ?_)) | (refine Exec.box1 rfl (by first | rfl | assumption) rfl (fun b => ?_)))))) | (with_reducible refine Tr.next ?_) | (with_reducible refine Tr.seq ?_) | (with_reducible refine Tr.region ?_) | (with_reducible refine Tr.nil ?_) | ((refine Tr.guard_y' rfl rfl rfl (by first | (with_reducible assumption) | (with_reducible rfl) | (with_reducible exact (not_not_intro rfl)) | omega) ?_); (first | ((with_reducible refine Knd.load ?_); ((refine Exec.stab rfl (Stab.load rfl (tysOk.get rfl) rfl (by repeat (first | exact Has.here | apply Has.there)) rfl) rfl ?_))) | ((with_reducible refine Knd.fieldAddr ?_); ((refine Exec.stab rfl (Stab.fieldZ rfl (tysOk.get rfl) rfl rfl (tysOk.get rfl) rfl) rfl ?_))) | ((with_reducible refine Knd.len ?_); ((refine Exec.stab rfl (Stab.len rfl (tysOk.get rfl) rfl) rfl ?_))) | ((with_reducible refine Knd.binOp ?_); ((refine Exec.stab rfl (Stab.int rfl rfl rfl) rfl ?_))))) | (refine Tr.guard_n' rfl rfl rfl (by first | (with_reducible assumption) | (with_reducible rfl) | (with_reducible exact (not_not_intro rfl)) | omega) rfl rfl ?_) | (with_reducible refine Tr.ret ?_) | (with_reducible refine Tr.then_ret ?_) | (refine Tr.cond_bt rfl (by first | (with_reducible rfl) | (with_reducible assumption) | (with_reducible exact Bool.not_true) | (with_reducible exact Bool.not_false)) ?_))
    (refine Tr.done (by first | exact .inl rfl | exact .inr rfl) rfl (by repeat (first | exact RVs.nil | (apply RVs.cons; (exact RV.tmp rfl)))) (by first | exact Mem.le.refl _ | assumption) (by exact ⟨[_, _], rfl⟩) ⟨rfl, ?_⟩)
    exact ⟨by rw [decide_eq_false hn]; rfl, rfl⟩
  by_cases c4 : stop1 ≠ stop2
  · have hn : ¬ sameP ⟨sec1, pen1, left1, stop1⟩ ⟨sec2, pen2, left2, stop2⟩ := fun h => c4 h.2.2.2
    repeat (first | ((with_reducible refine Tr.step rfl ?_); (first | ((with_reducible refine Knd.move ?_); (refine Exec.stab rfl (Stab.move rfl) rfl ?_)) | ((with_reducible refine Knd.assign ?_); (refine Exec.stab rfl (Stab.assign rfl) rfl ?_)) | ((with_reducible refine Knd.load ?_); ((refine Exec.stab rfl (Stab.load rfl (tysOk.get rfl) rfl (by repeat (first | exact Has.here | apply Has.there)) rfl) rfl ?_))) | ((with_reducible refine Knd.fieldAddr ?_); ((refine Exec.stab rfl (Stab.fieldZ rfl (tysOk.get rfl) rfl rfl (tysOk.get rfl) rfl) rfl ?_))) | ((with_reducible refine Knd.len ?_); ((refine Exec.stab rfl (Stab.len rfl (tysOk.get rfl) rfl) rfl ?_))) | ((with_reducible refine Knd.binOp ?_); ((refine Exec.stab rfl (Stab.int rfl rfl rfl) rfl ?_))) | ((with_reducible refine Knd.pick ?_); ((refine Exec.stab rfl (Stab.pick_fd rfl (by first | (with_reducible assumption) | (with_reducible rfl) | (with_reducible exact (not_not_intro rfl)) | omega) rfl) rfl ?_))) | ((with_reducible refine Knd.box ?_); (first | (refine Exec.box rfl rfl (fun b => ?_)) | (refine Exec.box1 rfl (by first | rfl | assumption) rfl (fun b => ?_)))))) | (with_reducible refine Tr.next ?_) | (with_reducible refine Tr.seq ?_) | (with_reducible refine Tr.region ?_) | (with_reducible refine Tr.nil ?_) | ((refine Tr.guard_y' rfl rfl rfl (by first | (with_reducible assumption) | (with_reducible rfl) | (with_reducible exact (not_not_intro rfl)) | omega) ?_); (first | ((with_reducible refine Knd.load ?_); ((refine Exec.stab rfl (Stab.load rfl (tysOk.get rfl) rfl (by repeat (first | exact Has.here | apply Has.there)) rfl) rfl ?_))) | ((with_reducible refine Knd.fieldAddr ?_); ((refine Exec.stab rfl (Stab.fieldZ rfl (tysOk.get rfl) rfl rfl (tysOk.get rfl) rfl) rfl ?_))) | ((with_reducible refine Knd.len ?_); ((refine Exec.stab rfl (Stab.len rfl (tysOk.get rfl) rfl) rfl ?_))) | ((with_reducible refine Knd.binOp ?_); (first | (refine Exec.stab rfl (Stab.int rfl rfl rfl) rfl ?_) | (refine Exec.stab rfl (Stab.boolne rfl rfl (tysOk.get rfl) rfl) rfl ?_))))) | (with_reducible refine Tr.ret ?_) | (with_reducible refine Tr.then_ret ?_) | (refine Tr.cond_t rfl (by first | (with_reducible assumption) | (with_reducible rfl) | (with_reducible exact (not_not_intro rfl)) | omega) ?_))
    (refine Tr.done (by first | exact .inl rfl | exact .inr rfl) rfl (by repeat (first | exact RVs.nil | (apply RVs.cons; (exact RV.tmp rfl)))) (by first | exact Mem.le.refl _ | assumption) (by exact ⟨[_, _], rfl⟩) ⟨rfl, ?_⟩)
    exact ⟨by rw [decide_eq_false hn]; rfl, rfl⟩
  repeat (first | ((with_reducible refine Tr.step rfl ?_); (first | ((with_reducible refine Knd.move ?_); (refine Exec.stab rfl (Stab.move rfl) rfl ?_)) | ((with_reducible refine Knd.assign ?_); (refine Exec.stab rfl (Stab.assign rfl) rfl ?_)) | ((with_reducible refine Knd.load ?_); ((refine Exec.stab rfl (Stab.load rfl (tysOk.get rfl) rfl (by repeat (first | exact Has.here | apply Has.there)) rfl) rfl ?_))) | ((with_reducible refine Knd.fieldAddr ?_); ((refine Exec.stab rfl (Stab.fieldZ rfl (tysOk.get rfl) rfl rfl (tysOk.get rfl) rfl) rfl ?_))) | ((with_reducible refine Knd.len ?_); ((refine Exec.stab rfl (Stab.len rfl (tysOk.get rfl) rfl) rfl ?_))) | ((with_reducible refine Knd.binOp ?_); ((refine Exec.stab rfl (Stab.int rfl rfl rfl) rfl ?_))) | ((with_reducible refine Knd.pick ?_); ((refine Exec.stab rfl (Stab.pick_fd rfl (by first | (with_reducible assumption) | (with_reducible rfl) | (with_reducible exact (not_not_intro rfl)) | omega) rfl) rfl ?_))) | ((with_reducible refine Knd.box ?_); (first | (refine Exec.box rfl rfl (fun b => ?_)) | (refine Exec.box1 rfl (by first | rfl | assumption) rfl (fun b => ?_)))))) | (with_reducible refine Tr.next ?_) | (with_reducible refine Tr.seq ?_) | (with_reducible refine Tr.region ?_) | (with_reducible refine Tr.nil ?_) | ((refine Tr.guard_y' rfl rfl rfl (by first | (with_reducible assumption) | (with_reducible rfl) | (with_reducible exact (not_not_intro rfl)) | omega) ?_); (first | ((with_reducible refine Knd.load ?_); ((refine Exec.stab rfl (Stab.load rfl (tysOk.get rfl) rfl (by repeat (first | exact Has.here | apply Has.there)) rfl) rfl ?_))) | ((with_reducible refine Knd.fieldAddr ?_); ((refine Exec.stab rfl (Stab.fieldZ rfl (tysOk.get rfl) rfl rfl (tysOk.get rfl) rfl) rfl ?_))) | ((with_reducible refine Knd.len ?_); ((refine Exec.stab rfl (Stab.len rfl (tysOk.get rfl) rfl) rfl ?_))) | ((with_reducible refine Knd.binOp ?_); (first | (refine Exec.stab rfl (Stab.int rfl rfl rfl) rfl ?_) | (refine Exec.stab rfl (Stab.boolne rfl rfl (tysOk.get rfl) rfl) rfl ?_))))) | (with_reducible refine Tr.skip ?_) | (with_reducible refine Tr.block ?_) | (refine Tr.cond_f rfl (by first | (with_reducible assumption) | (with_reducible rfl) | (with_reducible exact (not_not_intro rfl)) | omega) ?_))
  refine Tr.loop (α := Nat) (fun i => ⟨94, [(5, .int .i64 i), (4, .bool false), (3, .pointer (some ⟨_, 0, none⟩)), (2, .pointer (some ⟨_, 0, none⟩))], [], M, _⟩) (fun i => i ≤ sec1.length ∧ sec1.take i = sec2.take i) (fun i => sec1.length - i) 0 ⟨Nat.zero_le _, rfl⟩ (holds_sub (by repeat (first | exact SubFr.nil | refine SubFr.cons rfl ?_)) (by repeat (first | exact DropL.refl | apply DropL.skip))) (fun i hi => ?_)
  obtain ⟨hi, heq⟩ := hi
  by_cases hlt : i < sec1.length
  · obtain ⟨x, hx⟩ := get_of_lt hlt
    obtain ⟨y, hy⟩ := get_of_lt (show i < sec2.length by omega)
    obtain ⟨hA1, ch1, hat1, A1, k1, rfl, hb1⟩ := h1.elem hx
    obtain ⟨hA2, ch2, hat2, A2, k2, rfl, hb2⟩ := h3.elem hy
    by_cases hxy : x ≠ y
    · have hn : ¬ sameP ⟨sec1, pen1, left1, stop1⟩ ⟨sec2, pen2, left2, stop2⟩ := fun h => hxy (by
        have h0 : sec1 = sec2 := h.1
        subst h0; rw [hx] at hy; cases hy; rfl)
      repeat (first | ((with_reducible refine Tr.step rfl ?_); (first | ((with_reducible refine Knd.move ?_); (refine Exec.stab rfl (Stab.move rfl) rfl ?_)) | ((with_reducible refine Knd.load ?_); ((refine Exec.stab rfl (Stab.load rfl (tysOk.get rfl) rfl (by repeat (first | exact Has.here | apply Has.there)) rfl) rfl ?_))) | ((with_reducible refine Knd.fieldAddr ?_); ((refine Exec.stab rfl (Stab.fieldZ rfl (tysOk.get rfl) rfl rfl (tysOk.get rfl) rfl) rfl ?_))) | ((with_reducible refine Knd.len ?_); ((refine Exec.stab rfl (Stab.len rfl (tysOk.get rfl) rfl) rfl ?_))) | ((with_reducible refine Knd.binOp ?_); ((refine Exec.stab rfl (Stab.int rfl rfl rfl) rfl ?_))))) | (with_reducible refine Tr.next ?_) | (with_reducible refine Tr.seq ?_) | (with_reducible refine Tr.region ?_) | (with_reducible refine Tr.nil ?_) | (with_reducible refine Tr.skip ?_) | (with_reducible refine Tr.block ?_) | (refine Tr.cond_t rfl (by first | (with_reducible assumption) | (with_reducible rfl) | (with_reducible exact (not_not_intro rfl)) | omega) ?_))
      (((apply Tr.draw); (kernel_rfl)); (refine TrA.take 0 (by kernel_rfl) rfl (by kernel_rfl) (by first | exact fun _ _ _ h => h | exact fun _ _ _ h => nomatch h.1) (by exact fun _ h => h) rfl (by exact Stab.fieldZ rfl (tysOk.get rfl) rfl rfl (tysOk.get rfl) rfl) rfl rfl ?_); (refine TrA.take 1 (by kernel_rfl) rfl (by kernel_rfl) (by first | exact fun _ _ _ h => h | exact fun _ _ _ h => nomatch h.1) (by exact fun _ h => h) rfl (by exact Stab.load rfl (tysOk.get rfl) rfl (by repeat (first | exact Has.here | apply Has.there)) rfl) rfl rfl ?_); (refine TrA.take 2 (by kernel_rfl) rfl (by kernel_rfl) (by first | exact fun _ _ _ h => h | exact fun _ _ _ h => nomatch h.1) (by exact fun _ h => h) rfl (by first | exact Stab.move rfl) rfl rfl ?_); (refine TrA.take 3 (by kernel_rfl) rfl (by kernel_rfl) (by first | exact fun _ _ _ h => h | exact fun _ _ _ h => nomatch h.1) (by exact fun _ h => h) rfl (by exact Stab.indexAddr rfl rfl (tysOk.get rfl) rfl (tysOk.get rfl) rfl (by omega) (by omega) (by first | rfl | assumption)) rfl rfl ?_); (refine TrA.take 4 (by kernel_rfl) rfl (by kernel_rfl) (by first | exact fun _ _ _ h => h | exact fun _ _ _ h => nomatch h.1) (by exact fun _ h => h) rfl (by exact Stab.loadM rfl (tysOk.get rfl) rfl (by assumption)) rfl rfl ?_); (refine TrA.take 5 (by kernel_rfl) rfl (by kernel_rfl) (by first | exact fun _ _ _ h => h | exact fun _ _ _ h => nomatch h.1) (by exact fun _ h => h) rfl (by exact Stab.bstrB rfl (tysOk.get rfl) (tysOk.get rfl) rfl rfl (tysOk.get rfl) rfl (by assumption)) rfl rfl ?_); (refine TrA.take 6 (by kernel_rfl) rfl (by kernel_rfl) (by first | exact fun _ _ _ h => h | exact fun _ _ _ h => nomatch h.1) (by exact fun _ h => h) rfl (by exact Stab.fieldZ rfl (tysOk.get rfl) rfl rfl (tysOk.get rfl) rfl) rfl rfl ?_); (refine TrA.take 7 (by kernel_rfl) rfl (by kernel_rfl) (by first | exact fun _ _ _ h => h | exact fun _ _ _ h => nomatch h.1) (by exact fun _ h => h) rfl (by exact Stab.load rfl (tysOk.get rfl) rfl (by repeat (first | exact Has.here | apply Has.there)) rfl) rfl rfl ?_); (refine TrA.take 8 (by kernel_rfl) rfl (by kernel_rfl) (by first | exact fun _ _ _ h => h | exact fun _ _ _ h => nomatch h.1) (by exact fun _ h => h) rfl (by first | exact Stab.move rfl) rfl rfl ?_); (refine TrA.take 9 (by kernel_rfl) rfl (by kernel_rfl) (by first | exact fun _ _ _ h => h | exact fun _ _ _ h => nomatch h.1) (by exact fun _ h => h) rfl (by exact Stab.indexAddr rfl rfl (tysOk.get rfl) rfl (tysOk.get rfl) rfl (by omega) (by omega) (by first | rfl | assumption)) rfl rfl ?_); (refine TrA.take 10 (by kernel_rfl) rfl (by kernel_rfl) (by first | exact fun _ _ _ h => h | exact fun _ _ _ h => nomatch h.1) (by exact fun _ h => h) rfl (by exact Stab.loadM rfl (tysOk.get rfl) rfl (by assumption)) rfl rfl ?_); (refine TrA.take 11 (by kernel_rfl) rfl (by kernel_rfl) (by first | exact fun _ _ _ h => h | exact fun _ _ _ h => nomatch h.1) (by exact fun _ h => h) rfl (by exact Stab.bstrB rfl (tysOk.get rfl) (tysOk.get rfl) rfl rfl (tysOk.get rfl) rfl (by assumption)) rfl rfl ?_); (refine TrA.take 12 (by kernel_rfl) rfl (by kernel_rfl) (by first | exact fun _ _ _ h => h | exact fun _ _ _ h => nomatch h.1) (by exact fun _ h => h) rfl (by exact Stab.strne rfl rfl) rfl rfl ?_); (refine TrA.done (by kernel_rfl) ?_))
      repeat (first | ((with_reducible refine Tr.step rfl ?_); (((with_reducible refine Knd.assign ?_); (refine Exec.stab rfl (Stab.assign rfl) rfl ?_)))) | (with_reducible refine Tr.next ?_) | (with_reducible refine Tr.seq ?_) | (with_reducible refine Tr.region ?_) | (with_reducible refine Tr.nil ?_) | (with_reducible refine Tr.ret ?_) | (with_reducible refine Tr.then_ret ?_) | (with_reducible refine Tr.in_ret ?_) | (refine Tr.cond_t rfl (by first | (with_reducible assumption) | (with_reducible rfl) | (with_reducible exact (not_not_intro rfl)) | omega) ?_))
      (refine Tr.done (by first | exact .inl rfl | exact .inr rfl) rfl (by repeat (first | exact RVs.nil | (apply RVs.cons; (exact RV.tmp rfl)))) (by first | exact Mem.le.refl _ | assumption) (by exact ⟨[_, _], rfl⟩) ⟨rfl, ?_⟩)
      exact ⟨by rw [decide_eq_false hn]; rfl, rfl⟩
    · repeat (first | ((with_reducible refine Tr.step rfl ?_); (first | ((with_reducible refine Knd.move ?_); (refine Exec.stab rfl (Stab.move rfl) rfl ?_)) | ((with_reducible refine Knd.load ?_); ((refine Exec.stab rfl (Stab.load rfl (tysOk.get rfl) rfl (by repeat (first | exact Has.here | apply Has.there)) rfl) rfl ?_))) | ((with_reducible refine Knd.fieldAddr ?_); ((refine Exec.stab rfl (Stab.fieldZ rfl (tysOk.get rfl) rfl rfl (tysOk.get rfl) rfl) rfl ?_))) | ((with_reducible refine Knd.len ?_); ((refine Exec.stab rfl (Stab.len rfl (tysOk.get rfl) rfl) rfl ?_))) | ((with_reducible refine Knd.binOp ?_); ((refine Exec.stab rfl (Stab.int rfl rfl rfl) rfl ?_))))) | (with_reducible refine Tr.next ?_) | (with_reducible refine Tr.seq ?_) | (with_reducible refine Tr.region ?_) | (with_reducible refine Tr.nil ?_) | (with_reducible refine Tr.skip ?_) | (with_reducible refine Tr.block ?_) | (refine Tr.cond_t rfl (by first | (with_reducible assumption) | (with_reducible rfl) | (with_reducible exact (not_not_intro rfl)) | omega) ?_))
      (((apply Tr.draw); (kernel_rfl)); (refine TrA.take 0 (by kernel_rfl) rfl (by kernel_rfl) (by first | exact fun _ _ _ h => h | exact fun _ _ _ h => nomatch h.1) (by exact fun _ h => h) rfl (by exact Stab.fieldZ rfl (tysOk.get rfl) rfl rfl (tysOk.get rfl) rfl) rfl rfl ?_); (refine TrA.take 1 (by kernel_rfl) rfl (by kernel_rfl) (by first | exact fun _ _ _ h => h | exact fun _ _ _ h => nomatch h.1) (by exact fun _ h => h) rfl (by exact Stab.load rfl (tysOk.get rfl) rfl (by repeat (first | exact Has.here | apply Has.there)) rfl) rfl rfl ?_); (refine TrA.take 2 (by kernel_rfl) rfl (by kernel_rfl) (by first | exact fun _ _ _ h => h | exact fun _ _ _ h => nomatch h.1) (by exact fun _ h => h) rfl (by first | exact Stab.move rfl) rfl rfl ?_); (refine TrA.take 3 (by kernel_rfl) rfl (by kernel_rfl) (by first | exact fun _ _ _ h => h | exact fun _ _ _ h => nomatch h.1) (by exact fun _ h => h) rfl (by exact Stab.indexAddr rfl rfl (tysOk.get rfl) rfl (tysOk.get rfl) rfl (by omega) (by omega) (by first | rfl | assumption)) rfl rfl ?_); (refine TrA.take 4 (by kernel_rfl) rfl (by kernel_rfl) (by first | exact fun _ _ _ h => h | exact fun _ _ _ h => nomatch h.1) (by exact fun _ h => h) rfl (by exact Stab.loadM rfl (tysOk.get rfl) rfl (by assumption)) rfl rfl ?_); (refine TrA.take 5 (by kernel_rfl) rfl (by kernel_rfl) (by first | exact fun _ _ _ h => h | exact fun _ _ _ h => nomatch h.1) (by exact fun _ h => h) rfl (by exact Stab.bstrB rfl (tysOk.get rfl) (tysOk.get rfl) rfl rfl (tysOk.get rfl) rfl (by assumption)) rfl rfl ?_); (refine TrA.take 6 (by kernel_rfl) rfl (by kernel_rfl) (by first | exact fun _ _ _ h => h | exact fun _ _ _ h => nomatch h.1) (by exact fun _ h => h) rfl (by exact Stab.fieldZ rfl (tysOk.get rfl) rfl rfl (tysOk.get rfl) rfl) rfl rfl ?_); (refine TrA.take 7 (by kernel_rfl) rfl (by kernel_rfl) (by first | exact fun _ _ _ h => h | exact fun _ _ _ h => nomatch h.1) (by exact fun _ h => h) rfl (by exact Stab.load rfl (tysOk.get rfl) rfl (by repeat (first | exact Has.here | apply Has.there)) rfl) rfl rfl ?_); (refine TrA.take 8 (by kernel_rfl) rfl (by kernel_rfl) (by first | exact fun _ _ _ h => h | exact fun _ _ _ h => nomatch h.1) (by exact fun _ h => h) rfl (by first | exact Stab.move rfl) rfl rfl ?_); (refine TrA.take 9 (by kernel_rfl) rfl (by kernel_rfl) (by first | exact fun _ _ _ h => h | exact fun _ _ _ h => nomatch h.1) (by exact fun _ h => h) rfl (by exact Stab.indexAddr rfl rfl (tysOk.get rfl) rfl (tysOk.get rfl) rfl (by omega) (by omega) (by first | rfl | assumption)) rfl rfl ?_); (refine TrA.take 10 (by kernel_rfl) rfl (by kernel_rfl) (by first | exact fun _ _ _ h => h | exact fun _ _ _ h => nomatch h.1) (by exact fun _ h => h) rfl (by exact Stab.loadM rfl (tysOk.get rfl) rfl (by assumption)) rfl rfl ?_); (refine TrA.take 11 (by kernel_rfl) rfl (by kernel_rfl) (by first | exact fun _ _ _ h => h | exact fun _ _ _ h => nomatch h.1) (by exact fun _ h => h) rfl (by exact Stab.bstrB rfl (tysOk.get rfl) (tysOk.get rfl) rfl rfl (tysOk.get rfl) rfl (by assumption)) rfl rfl ?_); (refine TrA.take 12 (by kernel_rfl) rfl (by kernel_rfl) (by first | exact fun _ _ _ h => h | exact fun _ _ _ h => nomatch h.1) (by exact fun _ h => h) rfl (by exact Stab.strne rfl rfl) rfl rfl ?_); (refine TrA.done (by kernel_rfl) ?_))
      repeat (first | ((with_reducible refine Tr.step rfl ?_); (first | ((with_reducible refine Knd.move ?_); (refine Exec.stab rfl (Stab.move rfl) rfl ?_)) | ((with_reducible refine Knd.assign ?_); (refine Exec.stab rfl (Stab.assign rfl) rfl ?_)) | ((with_reducible refine Knd.binOp ?_); ((refine Exec.stab rfl (Stab.addi rfl rfl (by omega)) rfl ?_))))) | (with_reducible refine Tr.next ?_) | (with_reducible refine Tr.region ?_) | (with_reducible refine Tr.nil ?_) | (with_reducible refine Tr.skip ?_) | (with_reducible refine Tr.in_normal ?_) | (refine Tr.cond_f rfl (by first | (with_reducible assumption) | (with_reducible rfl) | (with_reducible exact (not_not_intro rfl)) | omega) ?_))
      refine Tr.again (i + 1) ⟨by omega, take_step hx hy heq (by simpa using hxy)⟩ (by omega) (holds_sub (by repeat (first | exact SubFr.nil | refine SubFr.cons rfl ?_)) (by repeat (first | exact DropL.refl | apply DropL.skip)))
  · have es : sec1 = sec2 := take_full (by omega) (by omega) heq
    repeat (first | ((with_reducible refine Tr.step rfl ?_); (first | ((with_reducible refine Knd.move ?_); (refine Exec.stab rfl (Stab.move rfl) rfl ?_)) | ((with_reducible refine Knd.assign ?_); (refine Exec.stab rfl (Stab.assign rfl) rfl ?_)) | ((with_reducible refine Knd.load ?_); ((refine Exec.stab rfl (Stab.load rfl (tysOk.get rfl) rfl (by repeat (first | exact Has.here | apply Has.there)) rfl) rfl ?_))) | ((with_reducible refine Knd.fieldAddr ?_); ((refine Exec.stab rfl (Stab.fieldZ rfl (tysOk.get rfl) rfl rfl (tysOk.get rfl) rfl) rfl ?_))) | ((with_reducible refine Knd.len ?_); ((refine Exec.stab rfl (Stab.len rfl (tysOk.get rfl) rfl) rfl ?_))) | ((with_reducible refine Knd.binOp ?_); ((refine Exec.stab rfl (Stab.int rfl rfl rfl) rfl ?_))))) | (with_reducible refine Tr.next ?_) | (with_reducible refine Tr.seq ?_) | (with_reducible refine Tr.region ?_) | (with_reducible refine Tr.nil ?_) | (with_reducible refine Tr.block ?_) | (with_reducible refine Tr.exit ?_) | (with_reducible refine Tr.then_exit ?_) | ((with_reducible refine Tr.in_exit ?_ ?_); (exact rfl)) | (refine Tr.cond_f rfl (by first | (with_reducible assumption) | (with_reducible rfl) | (with_reducible exact (not_not_intro rfl)) | omega) ?_))
    refine Tr.loop (α := Nat) (fun i => ⟨94, [(6, .int .i64 i), (4, .bool false), (3, .pointer (some ⟨_, 0, none⟩)), (2, .pointer (some ⟨_, 0, none⟩))], [], M, _⟩) (fun i => i ≤ pen1.length ∧ pen1.take i = pen2.take i) (fun i => pen1.length - i) 0 ⟨Nat.zero_le _, rfl⟩ (holds_sub (by repeat (first | exact SubFr.nil | refine SubFr.cons rfl ?_)) (by repeat (first | exact DropL.refl | apply DropL.skip))) (fun i hi => ?_)
    obtain ⟨hi2, heq2⟩ := hi
    by_cases hlt2 : i < pen1.length
    · obtain ⟨x, hx⟩ := get_of_lt hlt2
      obtain ⟨y, hy⟩ := get_of_lt (show i < pen2.length by omega)
      obtain ⟨hA1, ch1, hat1, A1, k1, rfl, hb1⟩ := h2.elem hx
      obtain ⟨hA2, ch2, hat2, A2, k2, rfl, hb2⟩ := h4.elem hy
      have hat1z := hat1.drop 0
      have hat2z := hat2.drop 0
      have hat1t := hat1.tail
      have hat2t := hat2.tail
      have hne : x ≠ y → ¬ sameP ⟨sec1, pen1, left1, stop1⟩ ⟨sec2, pen2, left2, stop2⟩ := fun hxy h => hxy (by
        have h0 : pen1 = pen2 := h.2.1
        subst h0; rw [hx] at hy; cases hy; rfl)
      by_cases ha : x.1 = y.1
      · by_cases hxy : x.2 ≠ y.2
        · have hn := hne (fun h => hxy (by rw [h]))
          repeat (first | ((with_reducible refine Tr.step rfl ?_); (first | ((with_reducible refine Knd.move ?_); (refine Exec.stab rfl (Stab.move rfl) rfl ?_)) | ((with_reducible refine Knd.load ?_); ((refine Exec.stab rfl (Stab.load rfl (tysOk.get rfl) rfl (by repeat (first | exact Has.here | apply Has.there)) rfl) rfl ?_))) | ((with_reducible refine Knd.fieldAddr ?_); ((refine Exec.stab rfl (Stab.fieldZ rfl (tysOk.get rfl) rfl rfl (tysOk.get rfl) rfl) rfl ?_))) | ((with_reducible refine Knd.len ?_); ((refine Exec.stab rfl (Stab.len rfl (tysOk.get rfl) rfl) rfl ?_))) | ((with_reducible refine Knd.binOp ?_); ((refine Exec.stab rfl (Stab.int rfl rfl rfl) rfl ?_))))) | (with_reducible refine Tr.next ?_) | (with_reducible refine Tr.seq ?_) | (with_reducible refine Tr.region ?_) | (with_reducible refine Tr.nil ?_) | (with_reducible refine Tr.skip ?_) | (with_reducible refine Tr.block ?_) | (refine Tr.cond_t rfl (by first | (with_reducible assumption) | (with_reducible rfl) | (with_reducible exact (not_not_intro rfl)) | omega) ?_))
          (((apply Tr.draw); (kernel_rfl)); (refine TrA.take 0 (by kernel_rfl) rfl (by kernel_rfl) (by first | exact fun _ _ _ h => h | exact fun _ _ _ h => nomatch h.1) (by exact fun _ h => h) rfl (by exact Stab.fieldZ rfl (tysOk.get rfl) rfl rfl (tysOk.get rfl) rfl) rfl rfl ?_); (refine TrA.take 1 (by kernel_rfl) rfl (by kernel_rfl) (by first | exact fun _ _ _ h => h | exact fun _ _ _ h => nomatch h.1) (by exact fun _ h => h) rfl (by exact Stab.load rfl (tysOk.get rfl) rfl (by repeat (first | exact Has.here | apply Has.there)) rfl) rfl rfl ?_); (refine TrA.take 2 (by kernel_rfl) rfl (by kernel_rfl) (by first | exact fun _ _ _ h => h | exact fun _ _ _ h => nomatch h.1) (by exact fun _ h => h) rfl (by first | exact Stab.move rfl) rfl rfl ?_); (refine TrA.take 3 (by kernel_rfl) rfl (by kernel_rfl) (by first | exact fun _ _ _ h => h | exact fun _ _ _ h => nomatch h.1) (by exact fun _ h => h) rfl (by exact Stab.indexAddr rfl rfl (tysOk.get rfl) rfl (tysOk.get rfl) rfl (by omega) (by omega) (by first | rfl | assumption)) rfl rfl ?_); (refine TrA.take 4 (by kernel_rfl) rfl (by kernel_rfl) (by first | exact fun _ _ _ h => h | exact fun _ _ _ h => nomatch h.1) (by exact fun _ h => h) rfl (by exact Stab.fieldD rfl (tysOk.get rfl) rfl rfl (tysOk.get rfl) rfl) rfl rfl ?_); (refine TrA.take 5 (by kernel_rfl) rfl (by kernel_rfl) (by first | exact fun _ _ _ h => h | exact fun _ _ _ h => nomatch h.1) (by exact fun _ h => h) rfl (by exact Stab.loadM rfl (tysOk.get rfl) rfl (by assumption)) rfl rfl ?_); (refine TrA.take 6 (by kernel_rfl) rfl (by kernel_rfl) (by first | exact fun _ _ _ h => h | exact fun _ _ _ h => nomatch h.1) (by exact fun _ h => h) rfl (by exact Stab.fieldZ rfl (tysOk.get rfl) rfl rfl (tysOk.get rfl) rfl) rfl rfl ?_); (refine TrA.take 7 (by kernel_rfl) rfl (by kernel_rfl) (by first | exact fun _ _ _ h => h | exact fun _ _ _ h => nomatch h.1) (by exact fun _ h => h) rfl (by exact Stab.load rfl (tysOk.get rfl) rfl (by repeat (first | exact Has.here | apply Has.there)) rfl) rfl rfl ?_); (refine TrA.take 8 (by kernel_rfl) rfl (by kernel_rfl) (by first | exact fun _ _ _ h => h | exact fun _ _ _ h => nomatch h.1) (by exact fun _ h => h) rfl (by first | exact Stab.move rfl) rfl rfl ?_); (refine TrA.take 9 (by kernel_rfl) rfl (by kernel_rfl) (by first | exact fun _ _ _ h => h | exact fun _ _ _ h => nomatch h.1) (by exact fun _ h => h) rfl (by exact Stab.indexAddr rfl rfl (tysOk.get rfl) rfl (tysOk.get rfl) rfl (by omega) (by omega) (by first | rfl | assumption)) rfl rfl ?_); (refine TrA.take 10 (by kernel_rfl) rfl (by kernel_rfl) (by first | exact fun _ _ _ h => h | exact fun _ _ _ h => nomatch h.1) (by exact fun _ h => h) rfl (by exact Stab.fieldD rfl (tysOk.get rfl) rfl rfl (tysOk.get rfl) rfl) rfl rfl ?_); (refine TrA.take 11 (by kernel_rfl) rfl (by kernel_rfl) (by first | exact fun _ _ _ h => h | exact fun _ _ _ h => nomatch h.1) (by exact fun _ h => h) rfl (by exact Stab.loadM rfl (tysOk.get rfl) rfl (by assumption)) rfl rfl ?_); (refine TrA.take 12 (by kernel_rfl) rfl (by kernel_rfl) (by first | exact fun _ _ _ h => h | exact fun _ _ _ h => nomatch h.1) (by exact fun _ h => h) rfl (by exact Stab.int rfl rfl rfl) rfl rfl ?_); (refine TrA.take 13 (by kernel_rfl) rfl (by kernel_rfl) (by first | exact fun _ _ _ h => h | exact fun _ _ _ h => nomatch h.1) (by exact fun _ h => h) rfl (by first | exact Stab.move rfl) rfl rfl ?_); ((refine TrA.takeg 14 (by kernel_rfl) rfl (by kernel_rfl) (by first | exact fun _ _ _ h => h | exact fun _ _ _ h => nomatch h.1) (by exact fun _ h => h) rfl rfl rfl (decide_eq_false (by first | (with_reducible assumption) | (with_reducible rfl) | (with_reducible exact (not_not_intro rfl)) | omega)) (by exact Stab.fieldZ rfl (tysOk.get rfl) rfl rfl (tysOk.get rfl) rfl) rfl rfl ?_)); ((refine TrA.takeg 15 (by kernel_rfl) rfl (by kernel_rfl) (by first | exact fun _ _ _ h => h | exact fun _ _ _ h => nomatch h.1) (by exact fun _ h => h) rfl rfl rfl (decide_eq_false (by first | (with_reducible assumption) | (with_reducible rfl) | (with_reducible exact (not_not_intro rfl)) | omega)) (by exact Stab.load rfl (tysOk.get rfl) rfl (by repeat (first | exact Has.here | apply Has.there)) rfl) rfl rfl ?_)); ((refine TrA.takeg 16 (by kernel_rfl) rfl (by kernel_rfl) (by first | exact fun _ _ _ h => h | exact fun _ _ _ h => nomatch h.1) (by exact fun _ h => h) rfl rfl rfl (decide_eq_false (by first | (with_reducible assumption) | (with_reducible rfl) | (with_reducible exact (not_not_intro rfl)) | omega)) (by first | exact Stab.move rfl) rfl rfl ?_)); ((refine TrA.takeg 17 (by kernel_rfl) rfl (by kernel_rfl) (by first | exact fun _ _ _ h => h | exact fun _ _ _ h => nomatch h.1) (by exact fun _ h => h) rfl rfl rfl (decide_eq_false (by first | (with_reducible assumption) | (with_reducible rfl) | (with_reducible exact (not_not_intro rfl)) | omega)) (by exact Stab.indexAddr rfl rfl (tysOk.get rfl) rfl (tysOk.get rfl) rfl (by omega) (by omega) (by first | rfl | assumption)) rfl rfl ?_)); ((refine TrA.takeg 18 (by kernel_rfl) rfl (by kernel_rfl) (by first | exact fun _ _ _ h => h | exact fun _ _ _ h => nomatch h.1) (by exact fun _ h => h) rfl rfl rfl (decide_eq_false (by first | (with_reducible assumption) | (with_reducible rfl) | (with_reducible exact (not_not_intro rfl)) | omega)) (by exact Stab.fieldD rfl (tysOk.get rfl) rfl rfl (tysOk.get rfl) rfl) rfl rfl ?_)); ((refine TrA.takeg 19 (by kernel_rfl) rfl (by kernel_rfl) (by first | exact fun _ _ _ h => h | exact fun _ _ _ h => nomatch h.1) (by exact fun _ h => h) rfl rfl rfl (decide_eq_false (by first | (with_reducible assumption) | (with_reducible rfl) | (with_reducible exact (not_not_intro rfl)) | omega)) (by exact Stab.loadM rfl (tysOk.get rfl) rfl (by assumption)) rfl rfl ?_)); ((refine TrA.takeg 20 (by kernel_rfl) rfl (by kernel_rfl) (by first | exact fun _ _ _ h => h | exact fun _ _ _ h => nomatch h.1) (by exact fun _ h => h) rfl rfl rfl (decide_eq_false (by first | (with_reducible assumption) | (with_reducible rfl) | (with_reducible exact (not_not_intro rfl)) | omega)) (by exact Stab.bstrB rfl (tysOk.get rfl) (tysOk.get rfl) rfl rfl (tysOk.get rfl) rfl (by assumption)) rfl rfl ?_)); ((refine TrA.takeg 21 (by kernel_rfl) rfl (by kernel_rfl) (by first | exact fun _ _ _ h => h | exact fun _ _ _ h => nomatch h.1) (by exact fun _ h => h) rfl rfl rfl (decide_eq_false (by first | (with_reducible assumption) | (with_reducible rfl) | (with_reducible exact (not_not_intro rfl)) | omega)) (by exact Stab.fieldZ rfl (tysOk.get rfl) rfl rfl (tysOk.get rfl) rfl) rfl rfl ?_)); ((refine TrA.takeg 22 (by kernel_rfl) rfl (by kernel_rfl) (by first | exact fun _ _ _ h => h | exact fun _ _ _ h => nomatch h.1) (by exact fun _ h => h) rfl rfl rfl (decide_eq_false (by first | (with_reducible assumption) | (with_reducible rfl) | (with_reducible exact (not_not_intro rfl)) | omega)) (by exact Stab.load rfl (tysOk.get rfl) rfl (by repeat (first | exact Has.here | apply Has.there)) rfl) rfl rfl ?_)); ((refine TrA.takeg 23 (by kernel_rfl) rfl (by kernel_rfl) (by first | exact fun _ _ _ h => h | exact fun _ _ _ h => nomatch h.1) (by exact fun _ h => h) rfl rfl rfl (decide_eq_false (by first | (with_reducible assumption) | (with_reducible rfl) | (with_reducible exact (not_not_intro rfl)) | omega)) (by first | exact Stab.move rfl) rfl rfl ?_)); ((refine TrA.takeg 24 (by kernel_rfl) rfl (by kernel_rfl) (by first | exact fun _ _ _ h => h | exact fun _ _ _ h => nomatch h.1) (by exact fun _ h => h) rfl rfl rfl (decide_eq_false (by first | (with_reducible assumption) | (with_reducible rfl) | (with_reducible exact (not_not_intro rfl)) | omega)) (by exact Stab.indexAddr rfl rfl (tysOk.get rfl) rfl (tysOk.get rfl) rfl (by omega) (by omega) (by first | rfl | assumption)) rfl rfl ?_)); ((refine TrA.takeg 25 (by kernel_rfl) rfl (by kernel_rfl) (by first | exact fun _ _ _ h => h | exact fun _ _ _ h => nomatch h.1) (by exact fun _ h => h) rfl rfl rfl (decide_eq_false (by first | (with_reducible assumption) | (with_reducible rfl) | (with_reducible exact (not_not_intro rfl)) | omega)) (by exact Stab.fieldD rfl (tysOk.get rfl) rfl rfl (tysOk.get rfl) rfl) rfl rfl ?_)); ((refine TrA.takeg 26 (by kernel_rfl) rfl (by kernel_rfl) (by first | exact fun _ _ _ h => h | exact fun _ _ _ h => nomatch h.1) (by exact fun _ h => h) rfl rfl rfl (decide_eq_false (by first | (with_reducible assumption) | (with_reducible rfl) | (with_reducible exact (not_not_intro rfl)) | omega)) (by exact Stab.loadM rfl (tysOk.get rfl) rfl (by assumption)) rfl rfl ?_)); ((refine TrA.takeg 27 (by kernel_rfl) rfl (by kernel_rfl) (by first | exact fun _ _ _ h => h | exact fun _ _ _ h => nomatch h.1) (by exact fun _ h => h) rfl rfl rfl (decide_eq_false (by first | (with_reducible assumption) | (with_reducible rfl) | (with_reducible exact (not_not_intro rfl)) | omega)) (by exact Stab.bstrB rfl (tysOk.get rfl) (tysOk.get rfl) rfl rfl (tysOk.get rfl) rfl (by assumption)) rfl rfl ?_)); ((refine TrA.takeg 28 (by kernel_rfl) rfl (by kernel_rfl) (by first | exact fun _ _ _ h => h | exact fun _ _ _ h => nomatch h.1) (by exact fun _ h => h) rfl rfl rfl (decide_eq_false (by first | (with_reducible assumption) | (with_reducible rfl) | (with_reducible exact (not_not_intro rfl)) | omega)) (by exact Stab.strne rfl rfl) rfl rfl ?_)); (refine TrA.take 29 (by kernel_rfl) rfl (by kernel_rfl) (by first | exact fun _ _ _ h => h | exact fun _ _ _ h => nomatch h.1) (by exact fun _ h => h) rfl (by exact Stab.pick_fd rfl (by first | (with_reducible assumption) | (with_reducible rfl) | (with_reducible exact (not_not_intro rfl)) | omega) rfl) rfl rfl ?_); (refine TrA.done (by kernel_rfl) ?_))
          repeat (first | ((with_reducible refine Tr.step rfl ?_); (((with_reducible refine Knd.assign ?_); (refine Exec.stab rfl (Stab.assign rfl) rfl ?_)))) | (with_reducible refine Tr.next ?_) | (with_reducible refine Tr.seq ?_) | (with_reducible refine Tr.region ?_) | (with_reducible refine Tr.nil ?_) | (with_reducible refine Tr.ret ?_) | (with_reducible refine Tr.then_ret ?_) | (with_reducible refine Tr.in_ret ?_) | (refine Tr.cond_t rfl (by first | (with_reducible assumption) | (with_reducible rfl) | (with_reducible exact (not_not_intro rfl)) | omega) ?_))
          (refine Tr.done (by first | exact .inl rfl | exact .inr rfl) rfl (by repeat (first | exact RVs.nil | (apply RVs.cons; (exact RV.tmp rfl)))) (by first | exact Mem.le.refl _ | assumption) (by exact ⟨[_, _], rfl⟩) ⟨rfl, ?_⟩)
          exact ⟨by rw [decide_eq_false hn]; rfl, rfl⟩
        · repeat (first | ((with_reducible refine Tr.step rfl ?_); (first | ((with_reducible refine Knd.move ?_); (refine Exec.stab rfl (Stab.move rfl) rfl ?_)) | ((with_reducible refine Knd.load ?_); ((refine Exec.stab rfl (Stab.load rfl (tysOk.get rfl) rfl (by repeat (first | exact Has.here | apply Has.there)) rfl) rfl ?_))) | ((with_reducible refine Knd.fieldAddr ?_); ((refine Exec.stab rfl (Stab.fieldZ rfl (tysOk.get rfl) rfl rfl (tysOk.get rfl) rfl) rfl ?_))) | ((with_reducible refine Knd.len ?_); ((refine Exec.stab rfl (Stab.len rfl (tysOk.get rfl) rfl) rfl ?_))) | ((with_reducible refine Knd.binOp ?_); ((refine Exec.stab rfl (Stab.int rfl rfl rfl) rfl ?_))))) | (with_reducible refine Tr.next ?_) | (with_reducible refine Tr.seq ?_) | (with_reducible refine Tr.region ?_) | (with_reducible refine Tr.nil ?_) | (with_reducible refine Tr.skip ?_) | (with_reducible refine Tr.block ?_) | (refine Tr.cond_t rfl (by first | (with_reducible assumption) | (with_reducible rfl) | (with_reducible exact (not_not_intro rfl)) | omega) ?_))
          (((apply Tr.draw); (kernel_rfl)); (refine TrA.take 0 (by kernel_rfl) rfl (by kernel_rfl) (by first | exact fun _ _ _ h => h | exact fun _ _ _ h => nomatch h.1) (by exact fun _ h => h) rfl (by exact Stab.fieldZ rfl (tysOk.get rfl) rfl rfl (tysOk.get rfl) rfl) rfl rfl ?_); (refine TrA.take 1 (by kernel_rfl) rfl (by kernel_rfl) (by first | exact fun _ _ _ h => h | exact fun _ _ _ h => nomatch h.1) (by exact fun _ h => h) rfl (by exact Stab.load rfl (tysOk.get rfl) rfl (by repeat (first | exact Has.here | apply Has.there)) rfl) rfl rfl ?_); (refine TrA.take 2 (by kernel_rfl) rfl (by kernel_rfl) (by first | exact fun _ _ _ h => h | exact fun _ _ _ h => nomatch h.1) (by exact fun _ h => h) rfl (by first | exact Stab.move rfl) rfl rfl ?_); (refine TrA.take 3 (by kernel_rfl) rfl (by kernel_rfl) (by first | exact fun _ _ _ h => h | exact fun _ _ _ h => nomatch h.1) (by exact fun _ h => h) rfl (by exact Stab.indexAddr rfl rfl (tysOk.get rfl) rfl (tysOk.get rfl) rfl (by omega) (by omega) (by first | rfl | assumption)) rfl rfl ?_); (refine TrA.take 4 (by kernel_rfl) rfl (by kernel_rfl) (by first | exact fun _ _ _ h => h | exact fun _ _ _ h => nomatch h.1) (by exact fun _ h => h) rfl (by exact Stab.fieldD rfl (tysOk.get rfl) rfl rfl (tysOk.get rfl) rfl) rfl rfl ?_); (refine TrA.take 5 (by kernel_rfl) rfl (by kernel_rfl) (by first | exact fun _ _ _ h => h | exact fun _ _ _ h => nomatch h.1) (by exact fun _ h => h) rfl (by exact Stab.loadM rfl (tysOk.get rfl) rfl (by assumption)) rfl rfl ?_); (refine TrA.take 6 (by kernel_rfl) rfl (by kernel_rfl) (by first | exact fun _ _ _ h => h | exact fun _ _ _ h => nomatch h.1) (by exact fun _ h => h) rfl (by exact Stab.fieldZ rfl (tysOk.get rfl) rfl rfl (tysOk.get rfl) rfl) rfl rfl ?_); (refine TrA.take 7 (by kernel_rfl) rfl (by kernel_rfl) (by first | exact fun _ _ _ h => h | exact fun _ _ _ h => nomatch h.1) (by exact fun _ h => h) rfl (by exact Stab.load rfl (tysOk.get rfl) rfl (by repeat (first | exact Has.here | apply Has.there)) rfl) rfl rfl ?_); (refine TrA.take 8 (by kernel_rfl) rfl (by kernel_rfl) (by first | exact fun _ _ _ h => h | exact fun _ _ _ h => nomatch h.1) (by exact fun _ h => h) rfl (by first | exact Stab.move rfl) rfl rfl ?_); (refine TrA.take 9 (by kernel_rfl) rfl (by kernel_rfl) (by first | exact fun _ _ _ h => h | exact fun _ _ _ h => nomatch h.1) (by exact fun _ h => h) rfl (by exact Stab.indexAddr rfl rfl (tysOk.get rfl) rfl (tysOk.get rfl) rfl (by omega) (by omega) (by first | rfl | assumption)) rfl rfl ?_); (refine TrA.take 10 (by kernel_rfl) rfl (by kernel_rfl) (by first | exact fun _ _ _ h => h | exact fun _ _ _ h => nomatch h.1) (by exact fun _ h => h) rfl (by exact Stab.fieldD rfl (tysOk.get rfl) rfl rfl (tysOk.get rfl) rfl) rfl rfl ?_); (refine TrA.take 11 (by kernel_rfl) rfl (by kernel_rfl) (by first | exact fun _ _ _ h => h | exact fun _ _ _ h => nomatch h.1) (by exact fun _ h => h) rfl (by exact Stab.loadM rfl (tysOk.get rfl) rfl (by assumption)) rfl rfl ?_); (refine TrA.take 12 (by kernel_rfl) rfl (by kernel_rfl) (by first | exact fun _ _ _ h => h | exact fun _ _ _ h => nomatch h.1) (by exact fun _ h => h) rfl (by exact Stab.int rfl rfl rfl) rfl rfl ?_); (refine TrA.take 13 (by kernel_rfl) rfl (by kernel_rfl) (by first | exact fun _ _ _ h => h | exact fun _ _ _ h => nomatch h.1) (by exact fun _ h => h) rfl (by first | exact Stab.move rfl) rfl rfl ?_); ((refine TrA.takeg 14 (by kernel_rfl) rfl (by kernel_rfl) (by first | exact fun _ _ _ h => h | exact fun _ _ _ h => nomatch h.1) (by exact fun _ h => h) rfl rfl rfl (decide_eq_false (by first | (with_reducible assumption) | (with_reducible rfl) | (with_reducible exact (not_not_intro rfl)) | omega)) (by exact Stab.fieldZ rfl (tysOk.get rfl) rfl rfl (tysOk.get rfl) rfl) rfl rfl ?_)); ((refine TrA.takeg 15 (by kernel_rfl) rfl (by kernel_rfl) (by first | exact fun _ _ _ h => h | exact fun _ _ _ h => nomatch h.1) (by exact fun _ h => h) rfl rfl rfl (decide_eq_false (by first | (with_reducible assumption) | (with_reducible rfl) | (with_reducible exact (not_not_intro rfl)) | omega)) (by exact Stab.load rfl (tysOk.get rfl) rfl (by repeat (first | exact Has.here | apply Has.there)) rfl) rfl rfl ?_)); ((refine TrA.takeg 16 (by kernel_rfl) rfl (by kernel_rfl) (by first | exact fun _ _ _ h => h | exact fun _ _ _ h => nomatch h.1) (by exact fun _ h => h) rfl rfl rfl (decide_eq_false (by first | (with_reducible assumption) | (with_reducible rfl) | (with_reducible exact (not_not_intro rfl)) | omega)) (by first | exact Stab.move rfl) rfl rfl ?_)); ((refine TrA.takeg 17 (by kernel_rfl) rfl (by kernel_rfl) (by first | exact fun _ _ _ h => h | exact fun _ _ _ h => nomatch h.1) (by exact fun _ h => h) rfl rfl rfl (decide_eq_false (by first | (with_reducible assumption) | (with_reducible rfl) | (with_reducible exact (not_not_intro rfl)) | omega)) (by exact Stab.indexAddr rfl rfl (tysOk.get rfl) rfl (tysOk.get rfl) rfl (by omega) (by omega) (by first | rfl | assumption)) rfl rfl ?_)); ((refine TrA.takeg 18 (by kernel_rfl) rfl (by kernel_rfl) (by first | exact fun _ _ _ h => h | exact fun _ _ _ h => nomatch h.1) (by exact fun _ h => h) rfl rfl rfl (decide_eq_false (by first | (with_reducible assumption) | (with_reducible rfl) | (with_reducible exact (not_not_intro rfl)) | omega)) (by exact Stab.fieldD rfl (tysOk.get rfl) rfl rfl (tysOk.get rfl) rfl) rfl rfl ?_)); ((refine TrA.takeg 19 (by kernel_rfl) rfl (by kernel_rfl) (by first | exact fun _ _ _ h => h | exact fun _ _ _ h => nomatch h.1) (by exact fun _ h => h) rfl rfl rfl (decide_eq_false (by first | (with_reducible assumption) | (with_reducible rfl) | (with_reducible exact (not_not_intro rfl)) | omega)) (by exact Stab.loadM rfl (tysOk.get rfl) rfl (by assumption)) rfl rfl ?_)); ((refine TrA.takeg 20 (by kernel_rfl) rfl (by kernel_rfl) (by first | exact fun _ _ _ h => h | exact fun _ _ _ h => nomatch h.1) (by exact fun _ h => h) rfl rfl rfl (decide_eq_false (by first | (with_reducible assumption) | (with_reducible rfl) | (with_reducible exact (not_not_intro rfl)) | omega)) (by exact Stab.bstrB rfl (tysOk.get rfl) (tysOk.get rfl) rfl rfl (tysOk.get rfl) rfl (by assumption)) rfl rfl ?_)); ((refine TrA.takeg 21 (by kernel_rfl) rfl (by kernel_rfl) (by first | exact fun _ _ _ h => h | exact fun _ _ _ h => nomatch h.1) (by exact fun _ h => h) rfl rfl rfl (decide_eq_false (by first | (with_reducible assumption) | (with_reducible rfl) | (with_reducible exact (not_not_intro rfl)) | omega)) (by exact Stab.fieldZ rfl (tysOk.get rfl) rfl rfl (tysOk.get rfl) rfl) rfl rfl ?_)); ((refine TrA.takeg 22 (by kernel_rfl) rfl (by kernel_rfl) (by first | exact fun _ _ _ h => h | exact fun _ _ _ h => nomatch h.1) (by exact fun _ h => h) rfl rfl rfl (decide_eq_false (by first | (with_reducible assumption) | (with_reducible rfl) | (with_reducible exact (not_not_intro rfl)) | omega)) (by exact Stab.load rfl (tysOk.get rfl) rfl (by repeat (first | exact Has.here | apply Has.there)) rfl) rfl rfl ?_)); ((refine TrA.takeg 23 (by kernel_rfl) rfl (by kernel_rfl) (by first | exact fun _ _ _ h => h | exact fun _ _ _ h => nomatch h.1) (by exact fun _ h => h) rfl rfl rfl (decide_eq_false (by first | (with_reducible assumption) | (with_reducible rfl) | (with_reducible exact (not_not_intro rfl)) | omega)) (by first | exact Stab.move rfl) rfl rfl ?_)); ((refine TrA.takeg 24 (by kernel_rfl) rfl (by kernel_rfl) (by first | exact fun _ _ _ h => h | exact fun _ _ _ h => nomatch h.1) (by exact fun _ h => h) rfl rfl rfl (decide_eq_false (by first | (with_reducible assumption) | (with_reducible rfl) | (with_reducible exact (not_not_intro rfl)) | omega)) (by exact Stab.indexAddr rfl rfl (tysOk.get rfl) rfl (tysOk.get rfl) rfl (by omega) (by omega) (by first | rfl | assumption)) rfl rfl ?_)); ((refine TrA.takeg 25 (by kernel_rfl) rfl (by kernel_rfl) (by first | exact fun _ _ _ h => h | exact fun _ _ _ h => nomatch h.1) (by exact fun _ h => h) rfl rfl rfl (decide_eq_false (by first | (with_reducible assumption) | (with_reducible rfl) | (with_reducible exact (not_not_intro rfl)) | omega)) (by exact Stab.fieldD rfl (tysOk.get rfl) rfl rfl (tysOk.get rfl) rfl) rfl rfl ?_)); ((refine TrA.takeg 26 (by kernel_rfl) rfl (by kernel_rfl) (by first | exact fun _ _ _ h => h | exact fun _ _ _ h => nomatch h.1) (by exact fun _ h => h) rfl rfl rfl (decide_eq_false (by first | (with_reducible assumption) | (with_reducible rfl) | (with_reducible exact (not_not_intro rfl)) | omega)) (by exact Stab.loadM rfl (tysOk.get rfl) rfl (by assumption)) rfl rfl ?_)); ((refine TrA.takeg 27 (by kernel_rfl) rfl (by kernel_rfl) (by first | exact fun _ _ _ h => h | exact fun _ _ _ h => nomatch h.1) (by exact fun _ h => h) rfl rfl rfl (decide_eq_false (by first | (with_reducible assumption) | (with_reducible rfl) | (with_reducible exact (not_not_intro rfl)) | omega)) (by exact Stab.bstrB rfl (tysOk.get rfl) (tysOk.get rfl) rfl rfl (tysOk.get rfl) rfl (by assumption)) rfl rfl ?_)); ((refine TrA.takeg 28 (by kernel_rfl) rfl (by kernel_rfl) (by first | exact fun _ _ _ h => h | exact fun _ _ _ h => nomatch h.1) (by exact fun _ h => h) rfl rfl rfl (decide_eq_false (by first | (with_reducible assumption) | (with_reducible rfl) | (with_reducible exact (not_not_intro rfl)) | omega)) (by exact Stab.strne rfl rfl) rfl rfl ?_)); (refine TrA.take 29 (by kernel_rfl) rfl (by kernel_rfl) (by first | exact fun _ _ _ h => h | exact fun _ _ _ h => nomatch h.1) (by exact fun _ h => h) rfl (by exact Stab.pick_fd rfl (by first | (with_reducible assumption) | (with_reducible rfl) | (with_reducible exact (not_not_intro rfl)) | omega) rfl) rfl rfl ?_); (refine TrA.done (by kernel_rfl) ?_))
          repeat (first | ((with_reducible refine Tr.step rfl ?_); (first | ((with_reducible refine Knd.move ?_); (refine Exec.stab rfl (Stab.move rfl) rfl ?_)) | ((with_reducible refine Knd.assign ?_); (refine Exec.stab rfl (Stab.assign rfl) rfl ?_)) | ((with_reducible refine Knd.binOp ?_); ((refine Exec.stab rfl (Stab.addi rfl rfl (by omega)) rfl ?_))))) | (with_reducible refine Tr.next ?_) | (with_reducible refine Tr.region ?_) | (with_reducible refine Tr.nil ?_) | (with_reducible refine Tr.skip ?_) | (with_reducible refine Tr.in_normal ?_) | (refine Tr.cond_f rfl (by first | (with_reducible assumption) | (with_reducible rfl) | (with_reducible exact (not_not_intro rfl)) | omega) ?_))
          refine Tr.again (i + 1) ⟨by omega, take_step hx hy heq2 (Prod.ext ha (by simpa using hxy))⟩ (by omega) (holds_sub (by repeat (first | exact SubFr.nil | refine SubFr.cons rfl ?_)) (by repeat (first | exact DropL.refl | apply DropL.skip)))
      · have hn := hne (fun h => ha (by rw [h]))
        repeat (first | ((with_reducible refine Tr.step rfl ?_); (first | ((with_reducible refine Knd.move ?_); (refine Exec.stab rfl (Stab.move rfl) rfl ?_)) | ((with_reducible refine Knd.load ?_); ((refine Exec.stab rfl (Stab.load rfl (tysOk.get rfl) rfl (by repeat (first | exact Has.here | apply Has.there)) rfl) rfl ?_))) | ((with_reducible refine Knd.fieldAddr ?_); ((refine Exec.stab rfl (Stab.fieldZ rfl (tysOk.get rfl) rfl rfl (tysOk.get rfl) rfl) rfl ?_))) | ((with_reducible refine Knd.len ?_); ((refine Exec.stab rfl (Stab.len rfl (tysOk.get rfl) rfl) rfl ?_))) | ((with_reducible refine Knd.binOp ?_); ((refine Exec.stab rfl (Stab.int rfl rfl rfl) rfl ?_))))) | (with_reducible refine Tr.next ?_) | (with_reducible refine Tr.seq ?_) | (with_reducible refine Tr.region ?_) | (with_reducible refine Tr.nil ?_) | (with_reducible refine Tr.skip ?_) | (with_reducible refine Tr.block ?_) | (refine Tr.cond_t rfl (by first | (with_reducible assumption) | (with_reducible rfl) | (with_reducible exact (not_not_intro rfl)) | omega) ?_))
        (((apply Tr.draw); (kernel_rfl)); (refine TrA.take 0 (by kernel_rfl) rfl (by kernel_rfl) (by first | exact fun _ _ _ h => h | exact fun _ _ _ h => nomatch h.1) (by exact fun _ h => h) rfl (by exact Stab.fieldZ rfl (tysOk.get rfl) rfl rfl (tysOk.get rfl) rfl) rfl rfl ?_); (refine TrA.take 1 (by kernel_rfl) rfl (by kernel_rfl) (by first | exact fun _ _ _ h => h | exact fun _ _ _ h => nomatch h.1) (by exact fun _ h => h) rfl (by exact Stab.load rfl (tysOk.get rfl) rfl (by repeat (first | exact Has.here | apply Has.there)) rfl) rfl rfl ?_); (refine TrA.take 2 (by kernel_rfl) rfl (by kernel_rfl) (by first | exact fun _ _ _ h => h | exact fun _ _ _ h => nomatch h.1) (by exact fun _ h => h) rfl (by first | exact Stab.move rfl) rfl rfl ?_); (refine TrA.take 3 (by kernel_rfl) rfl (by kernel_rfl) (by first | exact fun _ _ _ h => h | exact fun _ _ _ h => nomatch h.1) (by exact fun _ h => h) rfl (by exact Stab.indexAddr rfl rfl (tysOk.get rfl) rfl (tysOk.get rfl) rfl (by omega) (by omega) (by first | rfl | assumption)) rfl rfl ?_); (refine TrA.take 4 (by kernel_rfl) rfl (by kernel_rfl) (by first | exact fun _ _ _ h => h | exact fun _ _ _ h => nomatch h.1) (by exact fun _ h => h) rfl (by exact Stab.fieldD rfl (tysOk.get rfl) rfl rfl (tysOk.get rfl) rfl) rfl rfl ?_); (refine TrA.take 5 (by kernel_rfl) rfl (by kernel_rfl) (by first | exact fun _ _ _ h => h | exact fun _ _ _ h => nomatch h.1) (by exact fun _ h => h) rfl (by exact Stab.loadM rfl (tysOk.get rfl) rfl (by assumption)) rfl rfl ?_); (refine TrA.take 6 (by kernel_rfl) rfl (by kernel_rfl) (by first | exact fun _ _ _ h => h | exact fun _ _ _ h => nomatch h.1) (by exact fun _ h => h) rfl (by exact Stab.fieldZ rfl (tysOk.get rfl) rfl rfl (tysOk.get rfl) rfl) rfl rfl ?_); (refine TrA.take 7 (by kernel_rfl) rfl (by kernel_rfl) (by first | exact fun _ _ _ h => h | exact fun _ _ _ h => nomatch h.1) (by exact fun _ h => h) rfl (by exact Stab.load rfl (tysOk.get rfl) rfl (by repeat (first | exact Has.here | apply Has.there)) rfl) rfl rfl ?_); (refine TrA.take 8 (by kernel_rfl) rfl (by kernel_rfl) (by first | exact fun _ _ _ h => h | exact fun _ _ _ h => nomatch h.1) (by exact fun _ h => h) rfl (by first | exact Stab.move rfl) rfl rfl ?_); (refine TrA.take 9 (by kernel_rfl) rfl (by kernel_rfl) (by first | exact fun _ _ _ h => h | exact fun _ _ _ h => nomatch h.1) (by exact fun _ h => h) rfl (by exact Stab.indexAddr rfl rfl (tysOk.get rfl) rfl (tysOk.get rfl) rfl (by omega) (by omega) (by first | rfl | assumption)) rfl rfl ?_); (refine TrA.take 10 (by kernel_rfl) rfl (by kernel_rfl) (by first | exact fun _ _ _ h => h | exact fun _ _ _ h => nomatch h.1) (by exact fun _ h => h) rfl (by exact Stab.fieldD rfl (tysOk.get rfl) rfl rfl (tysOk.get rfl) rfl) rfl rfl ?_); (refine TrA.take 11 (by kernel_rfl) rfl (by kernel_rfl) (by first | exact fun _ _ _ h => h | exact fun _ _ _ h => nomatch h.1) (by exact fun _ h => h) rfl (by exact Stab.loadM rfl (tysOk.get rfl) rfl (by assumption)) rfl rfl ?_); (refine TrA.take 12 (by kernel_rfl) rfl (by kernel_rfl) (by first | exact fun _ _ _ h => h | exact fun _ _ _ h => nomatch h.1) (by exact fun _ h => h) rfl (by exact Stab.int rfl rfl rfl) rfl rfl ?_); (refine TrA.take 13 (by kernel_rfl) rfl (by kernel_rfl) (by first | exact fun _ _ _ h => h | exact fun _ _ _ h => nomatch h.1) (by exact fun _ h => h) rfl (by first | exact Stab.move rfl) rfl rfl ?_); ((refine TrA.takeu 14 (by kernel_rfl) rfl (by kernel_rfl) (by first | exact fun _ _ _ h => h | exact fun _ _ _ h => nomatch h.1) (by exact fun _ h => h) rfl rfl rfl (by first | rfl | (simp; done) | (simp; omega)) rfl rfl ?_)); ((refine TrA.takeu 15 (by kernel_rfl) rfl (by kernel_rfl) (by first | exact fun _ _ _ h => h | exact fun _ _ _ h => nomatch h.1) (by exact fun _ h => h) rfl rfl rfl (by first | rfl | (simp; done) | (simp; omega)) rfl rfl ?_)); ((refine TrA.takeu 16 (by kernel_rfl) rfl (by kernel_rfl) (by first | exact fun _ _ _ h => h | exact fun _ _ _ h => nomatch h.1) (by exact fun _ h => h) rfl rfl rfl (by first | rfl | (simp; done) | (simp; omega)) rfl rfl ?_)); ((refine TrA.takeu 17 (by kernel_rfl) rfl (by kernel_rfl) (by first | exact fun _ _ _ h => h | exact fun _ _ _ h => nomatch h.1) (by exact fun _ h => h) rfl rfl rfl (by first | rfl | (simp; done) | (simp; omega)) rfl rfl ?_)); ((refine TrA.takeu 18 (by kernel_rfl) rfl (by kernel_rfl) (by first | exact fun _ _ _ h => h | exact fun _ _ _ h => nomatch h.1) (by exact fun _ h => h) rfl rfl rfl (by first | rfl | (simp; done) | (simp; omega)) rfl rfl ?_)); ((refine TrA.takeu 19 (by kernel_rfl) rfl (by kernel_rfl) (by first | exact fun _ _ _ h => h | exact fun _ _ _ h => nomatch h.1) (by exact fun _ h => h) rfl rfl rfl (by first | rfl | (simp; done) | (simp; omega)) rfl rfl ?_)); ((refine TrA.takeu 20 (by kernel_rfl) rfl (by kernel_rfl) (by first | exact fun _ _ _ h => h | exact fun _ _ _ h => nomatch h.1) (by exact fun _ h => h) rfl rfl rfl (by first | rfl | (simp; done) | (simp; omega)) rfl rfl ?_)); ((refine TrA.takeu 21 (by kernel_rfl) rfl (by kernel_rfl) (by first | exact fun _ _ _ h => h | exact fun _ _ _ h => nomatch h.1) (by exact fun _ h => h) rfl rfl rfl (by first | rfl | (simp; done) | (simp; omega)) rfl rfl ?_)); ((refine TrA.takeu 22 (by kernel_rfl) rfl (by kernel_rfl) (by first | exact fun _ _ _ h => h | exact fun _ _ _ h => nomatch h.1) (by exact fun _ h => h) rfl rfl rfl (by first | rfl | (simp; done) | (simp; omega)) rfl rfl ?_)); ((refine TrA.takeu 23 (by kernel_rfl) rfl (by kernel_rfl) (by first | exact fun _ _ _ h => h | exact fun _ _ _ h => nomatch h.1) (by exact fun _ h => h) rfl rfl rfl (by first | rfl | (simp; done) | (simp; omega)) rfl rfl ?_)); ((refine TrA.takeu 24 (by kernel_rfl) rfl (by kernel_rfl) (by first | exact fun _ _ _ h => h | exact fun _ _ _ h => nomatch h.1) (by exact fun _ h => h) rfl rfl rfl (by first | rfl | (simp; done) | (simp; omega)) rfl rfl ?_)); ((refine TrA.takeu 25 (by kernel_rfl) rfl (by kernel_rfl) (by first | exact fun _ _ _ h => h | exact fun _ _ _ h => nomatch h.1) (by exact fun _ h => h) rfl rfl rfl (by first | rfl | (simp; done) | (simp; omega)) rfl rfl ?_)); ((refine TrA.takeu 26 (by kernel_rfl) rfl (by kernel_rfl) (by first | exact fun _ _ _ h => h | exact fun _ _ _ h => nomatch h.1) (by exact fun _ h => h) rfl rfl rfl (by first | rfl | (simp; done) | (simp; omega)) rfl rfl ?_)); ((refine TrA.takeu 27 (by kernel_rfl) rfl (by kernel_rfl) (by first | exact fun _ _ _ h => h | exact fun _ _ _ h => nomatch h.1) (by exact fun _ h => h) rfl rfl rfl (by first | rfl | (simp; done) | (simp; omega)) rfl rfl ?_)); ((refine TrA.takeu 28 (by kernel_rfl) rfl (by kernel_rfl) (by first | exact fun _ _ _ h => h | exact fun _ _ _ h => nomatch h.1) (by exact fun _ h => h) rfl rfl rfl (by first | rfl | (simp; done) | (simp; omega)) rfl rfl ?_)); (refine TrA.take 29 (by kernel_rfl) rfl (by kernel_rfl) (by first | exact fun _ _ _ h => h | exact fun _ _ _ h => nomatch h.1) (by exact fun _ h => h) rfl (by exact Stab.pick_td rfl (by first | (with_reducible assumption) | (with_reducible rfl) | (with_reducible exact (not_not_intro rfl)) | omega) rfl) rfl rfl ?_); (refine TrA.done (by kernel_rfl) ?_))
        repeat (first | ((with_reducible refine Tr.step rfl ?_); (((with_reducible refine Knd.assign ?_); (refine Exec.stab rfl (Stab.assign rfl) rfl ?_)))) | (with_reducible refine Tr.next ?_) | (with_reducible refine Tr.seq ?_) | (with_reducible refine Tr.region ?_) | (with_reducible refine Tr.nil ?_) | (with_reducible refine Tr.ret ?_) | (with_reducible refine Tr.then_ret ?_) | (with_reducible refine Tr.in_ret ?_) | (refine Tr.cond_bt rfl (by first | (with_reducible rfl) | (with_reducible assumption) | (with_reducible exact Bool.not_true) | (with_reducible exact Bool.not_false)) ?_))
        (refine Tr.done (by first | exact .inl rfl | exact .inr rfl) rfl (by repeat (first | exact RVs.nil | (apply RVs.cons; (exact RV.tmp rfl)))) (by first | exact Mem.le.refl _ | assumption) (by exact ⟨[_, _], rfl⟩) ⟨rfl, ?_⟩)
        exact ⟨by rw [decide_eq_false hn]; rfl, rfl⟩
    · have ep : pen1 = pen2 := take_full (by omega) (by omega) heq2
      have hy : sameP ⟨sec1, pen1, left1, stop1⟩ ⟨sec2, pen2, left2, stop2⟩ := ⟨es, ep, c3, by simpa using c4⟩
      repeat (first | ((with_reducible refine Tr.step rfl ?_); (first | ((with_reducible refine Knd.move ?_); (refine Exec.stab rfl (Stab.move rfl) rfl ?_)) | ((with_reducible refine Knd.assign ?_); (refine Exec.stab rfl (Stab.assign rfl) rfl ?_)) | ((with_reducible refine Knd.load ?_); ((refine Exec.stab rfl (Stab.load rfl (tysOk.get rfl) rfl (by repeat (first | exact Has.here | apply Has.there)) rfl) rfl ?_))) | ((with_reducible refine Knd.fieldAddr ?_); ((refine Exec.stab rfl (Stab.fieldZ rfl (tysOk.get rfl) rfl rfl (tysOk.get rfl) rfl) rfl ?_))) | ((with_reducible refine Knd.len ?_); ((refine Exec.stab rfl (Stab.len rfl (tysOk.get rfl) rfl) rfl ?_))) | ((with_reducible refine Knd.binOp ?_); ((refine Exec.stab rfl (Stab.int rfl rfl rfl) rfl ?_))))) | (with_reducible refine Tr.next ?_) | (with_reducible refine Tr.seq ?_) | (with_reducible refine Tr.region ?_) | (with_reducible refine Tr.nil ?_) | (with_reducible refine Tr.exit ?_) | (with_reducible refine Tr.ret ?_) | (with_reducible refine Tr.then_exit ?_) | ((with_reducible refine Tr.in_exit ?_ ?_); (exact rfl)) | (refine Tr.cond_f rfl (by first | (with_reducible assumption) | (with_reducible rfl) | (with_reducible exact (not_not_intro rfl)) | omega) ?_))
      (refine Tr.done (by first | exact .inl rfl | exact .inr rfl) rfl (by repeat (first | exact RVs.nil | (apply RVs.cons; (exact RV.tmp rfl)))) (by first | exact Mem.le.refl _ | assumption) (by exact ⟨[_, _], rfl⟩) ⟨rfl, ?_⟩)
      exact ⟨by rw [decide_eq_true hy]; rfl, rfl⟩
end Go.Proofs.Ytkbggengagockaa
/-
  The journal: syncing in steps, plain, and contracts with their results spelt out.
  Conditions: none.
-/
namespace Go.Proofs.Ytkbggengagockaa
open Go Bf
theorem fx_new (M : Mem) (n : Nat) (h1 : 1 ≤ n) (h2 : n ≤ 4096) : Fn0 Try.prog 25 [.int .i64 (n : Int)] M (fun r M' => ∃ A c B k, r = .tuple #[.agg #[.slice A n c, .slice B 0 k, .int .i64 (-1), .bool false], .int .i64 0] ∧ RDisk M' (.agg #[.slice A n c, .slice B 0 k, .int .i64 (-1), .bool false]) (dk (List.replicate n zsec))) :=
  Fn0.mono (new_fn M n) fun v M' _ h => by
    rw [newF_dk h1 h2] at h
    obtain ⟨A, c, B, k, e, hd⟩ := h.openJ
    rw [show (dk (List.replicate n zsec)).sec.length = n from List.length_replicate] at e hd
    exact ⟨A, c, B, k, e, hd⟩
theorem fx_open (M : Mem) (v : Value) (D : List (List UInt8)) (n s : Int) (l : List (List UInt8)) (h : RDisk M v (dk D)) (ho : openF (dk D) = (⟨n, s, l⟩, 0)) : Fn0 Try.prog 12 [v] M (fun r M' => ∃ A c, r = .tuple #[.agg #[.int .i64 n, .int .i64 s, .slice A l.length c], .int .i64 0] ∧ RJr M' (.agg #[.int .i64 n, .int .i64 s, .slice A l.length c]) ⟨n, s, l⟩) :=
  Fn0.mono (open_fn M v _ h) fun v M' _ h => by
    rw [ho] at h
    exact h.openJ
theorem fx_sync (M : Mem) (v w : Value) (j : Jr) (D D' : List (List UInt8)) (n s : Int) (l : List (List UInt8)) (h : RJr M v j) (hd : RDisk M w (dk D)) (hj : occs j.rcs ≤ 1000000000) (hs : syncJ j (dk D) = (⟨n, s, l⟩, dk D', 0)) : Fn0 Try.prog 21 [v, w] M (fun r M' => ∃ A c A2 c2 B2 k2, r = .tuple #[.agg #[.int .i64 n, .int .i64 s, .slice A l.length c], .agg #[.slice A2 D'.length c2, .slice B2 0 k2, .int .i64 (-1), .bool false], .int .i64 0] ∧ RJr M' (.agg #[.int .i64 n, .int .i64 s, .slice A l.length c]) ⟨n, s, l⟩ ∧ RDisk M' (.agg #[.slice A2 D'.length c2, .slice B2 0 k2, .int .i64 (-1), .bool false]) (dk D')) :=
  Fn0.mono (sync_jfn M v w _ _ h hd hj) fun v M' _ h => by
    rw [hs] at h
    exact h.openJ
theorem fx_add (M : Mem) (v : Value) (j : Jr) (A : Option Addr) (c : Nat) (l : List (List UInt8)) (n s : Int) (m : List (List UInt8)) (hj : RJr M v j) (h : SlOf 1 RSec M (.slice A l.length c) l) (hk : okJ j) (ht : tot l ≤ 1048576) (ha : addF j l = ⟨n, s, m⟩) :
    Fn0 Try.prog 28 [v, .slice A l.length c] M (fun r M' => ∃ A c, r = .agg #[.int .i64 n, .int .i64 s, .slice A m.length c] ∧ RJr M' (.agg #[.int .i64 n, .int .i64 s, .slice A m.length c]) ⟨n, s, m⟩) :=
  Fn0.mono (add_fn M v j A c l hj h hk ht) fun v M' _ h => by
    rw [ha] at h
    obtain ⟨A, c, rfl, h1⟩ := h
    exact ⟨A, c, rfl, A, c, rfl, h1⟩
def D40 : List (List UInt8) := List.replicate 40 zsec
theorem D40_len : D40.length = 40 := List.length_replicate
theorem D40_128 : ∀ s ∈ D40, s.length = 128 := new_128 40
theorem D40_recs : recs D40 = [] := recs_new 40
theorem D40_gmax : gmax D40 = 0 := gmax_new 40
theorem D40_open : openF (dk D40) = (⟨40, 0, []⟩, 0) := by
  rw [openF_dk (by rw [D40_len]; decide) (by rw [D40_len]; decide) D40_128, D40_recs, D40_len]; rfl
theorem okJ_start : okJ ⟨40, 0, []⟩ := by decide
theorem okJ_le {n s : Int} {l : List (List UInt8)} (h : okJ ⟨n, s, l⟩) : ((occs l : Nat) : Int) ≤ n := h.2.2.2.2
/-- what the law's calls come to -/
theorem steps_plain (a b : List (List UInt8)) : ∃ A B D1 D2 D3, addF ⟨40, 0, []⟩ a = ⟨40, 0, A⟩ ∧ okJ ⟨40, 0, A⟩ ∧ addF ⟨40, 0, A⟩ b = ⟨40, 0, A ++ B⟩ ∧ okJ ⟨40, 0, A ++ B⟩ ∧
    syncJ ⟨40, 0, A ++ B⟩ (dk D40) = (⟨40, ((A ++ B).length : Int), A ++ B⟩, dk D3, 0) ∧ syncJ ⟨40, 0, A⟩ (dk D40) = (⟨40, (A.length : Int), A⟩, dk D1, 0) ∧
    okJ ⟨40, (A.length : Int), A⟩ ∧ addF ⟨40, (A.length : Int), A⟩ b = ⟨40, (A.length : Int), A ++ B⟩ ∧ okJ ⟨40, (A.length : Int), A ++ B⟩ ∧
    syncJ ⟨40, (A.length : Int), A ++ B⟩ (dk D1) = (⟨40, ((A ++ B).length : Int), A ++ B⟩, dk D2, 0) ∧ okJ ⟨40, ((A ++ B).length : Int), A ++ B⟩ ∧
    syncJ ⟨40, ((A ++ B).length : Int), A ++ B⟩ (dk D2) = (⟨40, ((A ++ B).length : Int), A ++ B⟩, dk D2, 0) ∧
    openF (dk D3) = (⟨40, ((A ++ B).length : Int), A ++ B⟩, 0) ∧ openF (dk D2) = (⟨40, ((A ++ B).length : Int), A ++ B⟩, 0) ∧ D1.length = 40 ∧ D2.length = 40 ∧ D3.length = 40 := by
  obtain ⟨e1, k1⟩ := addF_acc a okJ_start
  generalize hA : accF 40 0 a = A at e1
  have e1' : addF ⟨40, 0, []⟩ a = ⟨40, 0, A⟩ := by rw [e1]; show (⟨40, 0, [] ++ accF 40 (occs []) a⟩ : Jr) = _; rw [show occs [] = 0 from rfl, hA]; rfl
  rw [e1'] at k1
  obtain ⟨e2, k2⟩ := addF_acc b k1
  have e2' : addF ⟨40, 0, A⟩ b = ⟨40, 0, A ++ accF 40 (occs A) b⟩ := e2
  generalize hB : accF 40 (occs A) b = B at e2'
  rw [e2'] at k2
  have kA : okJ ⟨40, (A.length : Int), A⟩ := ⟨k1.1, k1.2.1, by show (0 : Int) ≤ (A.length : Int); omega, Int.le_refl _, k1.2.2.2.2⟩
  obtain ⟨e3, k3⟩ := addF_acc b kA
  have e3' : addF ⟨40, (A.length : Int), A⟩ b = ⟨40, (A.length : Int), A ++ accF 40 (occs A) b⟩ := e3
  rw [hB] at e3'
  rw [e3'] at k3
  have kAB : okJ ⟨40, ((A ++ B).length : Int), A ++ B⟩ := ⟨k2.1, k2.2.1, by show (0 : Int) ≤ ((A ++ B).length : Int); omega, Int.le_refl _, k2.2.2.2.2⟩
  have hoA := okJ_le k1
  have hoAB := okJ_le k2
  have hsum := occs_append A B
  have g0 : gmax D40 + 1 < 4294967296 := by rw [D40_gmax]; decide
  have s3 := syncJ_run (j := ⟨40, 0, A ++ B⟩) (D := D40) k2 D40_128 (by rw [D40_len]; rfl) (by rw [D40_recs]; rfl) (by omega)
  have s1 := syncJ_run (j := ⟨40, 0, A⟩) (D := D40) k1 D40_128 (by rw [D40_len]; rfl) (by rw [D40_recs]; rfl) (by omega)
  have o0 : occs (recs D40) = 0 := by rw [D40_recs]; rfl
  have l1 : (after D40 A).length = 40 := by rw [after_length (by rw [o0, D40_len]; omega), D40_len]
  have l3 : (after D40 (A ++ B)).length = 40 := by rw [after_length (by rw [o0, D40_len]; omega), D40_len]
  have r1 : recs (after D40 A) = A := by rw [recs_after D40_128 (by rw [o0, D40_len]; omega) (by rw [D40_len]; decide) g0, D40_recs]; rfl
  have r3 : recs (after D40 (A ++ B)) = A ++ B := by rw [recs_after D40_128 (by rw [o0, D40_len]; omega) (by rw [D40_len]; decide) g0, D40_recs]; rfl
  have x1 := after_128 (T := A) g0 D40_128
  have x3 := after_128 (T := A ++ B) g0 D40_128
  have g1 : gmax (after D40 A) ≤ 1 := by have := gmax_after (T := A) g0; rw [D40_gmax] at this; exact this
  generalize hD1 : after D40 A = D1 at l1 r1 x1 g1
  have s2 := syncJ_run (j := ⟨40, (A.length : Int), A ++ B⟩) (D := D1) k3 x1 (by rw [l1]; rfl) (by rw [r1]; show A = (A ++ B).take (Int.toNat (A.length : Int)); rw [Int.toNat_natCast, List.take_left' rfl]) (by omega)
  have hdrop : (A ++ B).drop (Int.toNat (A.length : Int)) = B := by rw [Int.toNat_natCast, List.drop_left' rfl]
  have l2 : (after D1 B).length = 40 := by rw [after_length (by rw [r1, l1]; omega), l1]
  have r2 : recs (after D1 B) = A ++ B := by rw [recs_after x1 (by rw [r1, l1]; omega) (by omega) (by omega), r1]
  have x2 := after_128 (T := B) (show gmax D1 + 1 < 4294967296 by omega) x1
  have g2 : gmax (after D1 B) ≤ 2 := by have := gmax_after (T := B) (show gmax D1 + 1 < 4294967296 by omega); omega
  generalize hD2 : after D1 B = D2 at l2 r2 x2 g2
  have s4 := syncJ_run (j := ⟨40, ((A ++ B).length : Int), A ++ B⟩) (D := D2) kAB x2 (by rw [l2]; rfl) (by rw [r2]; show A ++ B = (A ++ B).take (Int.toNat ((A ++ B).length : Int)); rw [Int.toNat_natCast, List.take_length]) (by omega)
  refine ⟨A, B, D1, D2, after D40 (A ++ B), e1', k1, e2', k2, s3, by rw [← hD1]; exact s1, kA, e3', k3, ?_, kAB, ?_, ?_, ?_, l1, l2, l3⟩
  · rw [s2]
    show ((⟨40, ((A ++ B).length : Int), A ++ B⟩ : Jr), dk (after D1 ((A ++ B).drop (Int.toNat (A.length : Int)))), (0 : Int)) = _
    rw [hdrop, hD2]
  · rw [s4]
    show ((⟨40, ((A ++ B).length : Int), A ++ B⟩ : Jr), dk (after D2 ((A ++ B).drop (Int.toNat ((A ++ B).length : Int)))), (0 : Int)) = _
    rw [Int.toNat_natCast, List.drop_length, after_nil]
  · rw [openF_dk (by omega) (by omega) x3, r3, l3]; rfl
  · rw [openF_dk (by omega) (by omega) x2, r2, l2]; rfl
end Go.Proofs.Ytkbggengagockaa
/-
  The journal, plain: a sector that is not good ends the reading; the checksum sees every change of a byte.
  Conditions: none.
-/
namespace Go.Proofs.Ytkbggengagockaa
open Go Bf
theorem readR_bad {g : Nat} {s : List UInt8} {Y : List (List UInt8)} : ∀ (l : List (List UInt8)) (k : Nat) (first : Bool), ¬ goodS s (k + l.length) → (∀ x ∈ l, ends x = false) → readR g (l ++ s :: Y) k first = none
  | [], k, first, hs, _ => by
    rw [List.nil_append, readR, if_neg (fun h => hs h.1)]
  | x :: l, k, first, hs, he => by
    rw [List.cons_append, readR]
    split
    · rw [if_neg (by rw [he x List.mem_cons_self]; decide), readR_bad l (k + 1) false (by rw [List.length_cons] at hs; rw [show k + 1 + l.length = k + (l.length + 1) by omega]; exact hs) fun y hy => he y (List.mem_cons_of_mem _ hy)]
      rfl
    · rfl
theorem secs_not_end {g at_ : Nat} {p : List UInt8} {j : Nat} (hj : j < occ p.length) : ∀ x ∈ (secs g at_ p).take j, ends x = false := fun x hx => by
  obtain ⟨i, hi⟩ := List.mem_iff_getElem?.1 hx
  rw [List.getElem?_take] at hi
  split at hi
  · rw [secs, secsFrom, List.getElem?_map] at hi
    cases hr : (List.range' 0 (occ p.length))[i]? with
    | none => rw [hr] at hi; cases hi
    | some q =>
      rw [hr] at hi
      have hq : q = i := by
        have := List.getElem?_eq_some_iff.1 hr
        obtain ⟨h1, h2⟩ := this
        rw [List.getElem_range'] at h2
        omega
      simp only [Option.map_some, Option.some.injEq] at hi
      rw [← hi, ends_bF, decide_eq_false_iff_not]
      omega
  · cases hi
/-- behind the whole records of a written list, a sector that is not good ends the reading -/
theorem recsL_bad {g : Nat} (hg0 : g ≠ 0) (hg : g < 4294967296) {s : List UInt8} {Y : List (List UInt8)} : ∀ (B : List (List UInt8)) (at_ least j : Nat), j < occs B → at_ + occs B ≤ 65536 → least ≤ g → ¬ goodS s (at_ + j) →
    ∃ m, m < B.length ∧ occs (B.take m) ≤ j ∧ j < occs (B.take (m + 1)) ∧ recsL ((secsAll g at_ B).take j ++ s :: Y) at_ least = B.take m
  | [], _, _, j, h, _, _, _ => by simp [occs] at h
  | p :: B, at_, least, j, h, hat, hle, hs => by
    rw [occs_cons] at h hat
    have hN := secs_length g at_ p
    have hop := occ_pos p.length
    rw [secsAll]
    by_cases hj : j < occ p.length
    · refine ⟨0, by simp, by simp [occs], by simp [occs]; omega, ?_⟩
      rw [List.take_append_of_le_length (by omega)]
      have hbad := readR_bad (g := gen s) (s := s) (Y := Y) [] (at_ + j) true (by simpa using hs) (by simp)
      by_cases h0 : j = 0
      · subst h0
        rw [List.take_zero, List.nil_append, recsL_cons]
        split
        · rfl
        · have hb := readR_bad (g := gen s) (s := s) (Y := Y) [] at_ true (by simpa using hs) (by simp)
          rw [List.nil_append] at hb
          rw [hb]
          rfl
      · obtain ⟨t, ht⟩ := secs_cons g at_ p
        have hb := readR_bad (g := g) (s := s) (Y := Y) ((secs g at_ p).take j) at_ true (by rw [List.length_take, Nat.min_eq_left (by omega)]; exact hs) (secs_not_end hj)
        rw [ht] at hb ⊢
        obtain ⟨i, rfl⟩ : ∃ i, j = i + 1 := ⟨j - 1, by omega⟩
        rw [List.take_succ_cons, List.cons_append] at hb ⊢
        rw [recsL_cons, gen_bF hg, hb]
        split <;> rfl
    · have e : (secs g at_ p ++ secsAll g (at_ + occ p.length) B).take j = secs g at_ p ++ (secsAll g (at_ + occ p.length) B).take (j - occ p.length) := by
        rw [List.take_append, hN, List.take_of_length_le (by omega)]
      obtain ⟨m, m1, m2, m3, m4⟩ := recsL_bad hg0 hg (s := s) (Y := Y) B (at_ + occ p.length) g (j - occ p.length) (by omega) (by omega) (Nat.le_refl _) (by rw [show at_ + occ p.length + (j - occ p.length) = at_ + j by omega]; exact hs)
      refine ⟨m + 1, by rw [List.length_cons]; omega, ?_, ?_, ?_⟩
      · rw [List.take_succ_cons, occs_cons]; omega
      · rw [List.take_succ_cons, occs_cons]; omega
      · rw [e, List.append_assoc, recsL_secs hg0 hg (by omega) hle, m4, List.take_succ_cons]
/-! the checksum -/
theorem shr_bit (a : UInt32) : ((a >>> 1).toBitVec).getLsbD 31 = false := by
  rw [UInt32.toBitVec_shiftRight]
  simp [BitVec.getLsbD_ushiftRight]
theorem crcS_top (a : UInt32) : (crcS a).toBitVec.getLsbD 31 = decide (a &&& 1 = 1) := by
  unfold crcS
  split
  · rename_i h
    rw [decide_eq_true h, UInt32.toBitVec_xor, BitVec.getLsbD_xor, shr_bit]
    decide
  · rename_i h
    rw [decide_eq_false h, shr_bit]
theorem crcS_inj {a b : UInt32} (h : crcS a = crcS b) : a = b := by
  have ht : decide (a &&& 1 = 1) = decide (b &&& 1 = 1) := by rw [← crcS_top, ← crcS_top, h]
  have hs : a >>> 1 = b >>> 1 := by
    unfold crcS at h
    by_cases ha : a &&& 1 = 1
    · have hb : b &&& 1 = 1 := by rw [decide_eq_true ha] at ht; exact of_decide_eq_true ht.symm
      rw [if_pos ha, if_pos hb] at h
      have := congrArg (· ^^^ (3988292384 : UInt32)) h
      simpa [UInt32.xor_assoc] using this
    · have hb : ¬ b &&& 1 = 1 := by rw [decide_eq_false ha] at ht; exact of_decide_eq_false ht.symm
      rw [if_neg ha, if_neg hb] at h
      exact h
  have hl : a.toNat % 2 = b.toNat % 2 := by
    have h1 : ∀ x : UInt32, (x &&& 1 = 1 ↔ x.toNat % 2 = 1) := fun x => by
      rw [← UInt32.toNat_inj, UInt32.toNat_and, show (1 : UInt32).toNat = 1 from rfl, Nat.and_one_is_mod]
    have := decide_eq_decide.1 ht
    rw [h1, h1] at this
    omega
  have hd : a.toNat / 2 = b.toNat / 2 := by
    have := congrArg UInt32.toNat hs
    rw [UInt32.toNat_shiftRight, UInt32.toNat_shiftRight] at this
    simpa [Nat.shiftRight_eq_div_pow] using this
  exact UInt32.toNat_inj.1 (by omega)
theorem crcK_inj : ∀ (k : Nat) {a b : UInt32}, crcK k a = crcK k b → a = b
  | 0, _, _, h => h
  | k + 1, _, _, h => crcK_inj k (crcS_inj h)
theorem crcB_inj1 {a b : UInt32} {x : UInt8} (h : crcB a x = crcB b x) : a = b := by
  have := crcK_inj 8 h
  have := congrArg (· ^^^ x.toUInt32) this
  simpa [UInt32.xor_assoc] using this
theorem crcB_inj2 {a : UInt32} {x y : UInt8} (h : crcB a x = crcB a y) : x = y := by
  have := crcK_inj 8 h
  have h2 := congrArg (a ^^^ ·) this
  have h3 : x.toUInt32 = y.toUInt32 := by simpa [← UInt32.xor_assoc] using h2
  have h4 := congrArg UInt32.toNat h3
  exact UInt8.toNat_inj.1 (by simpa using h4)
theorem crc_fold_inj : ∀ (l : List UInt8) {a b : UInt32}, l.foldl crcB a = l.foldl crcB b → a = b
  | [], _, _, h => h
  | x :: l, _, _, h => crcB_inj1 (crc_fold_inj l h)
theorem crc_set {l : List UInt8} {i : Nat} {x y : UInt8} (hx : l[i]? = some x) (hne : y ≠ x) : crc (l.set i y) ≠ crc l := by
  intro h
  have h1 : crcR (l.set i y) = crcR l := by
    have := congrArg (fun z : UInt32 => ~~~z) h
    simpa [crc] using this
  obtain ⟨hi, -⟩ := List.getElem?_eq_some_iff.1 hx
  have e1 : l.set i y = l.take i ++ y :: l.drop (i + 1) := by rw [List.set_eq_take_append_cons_drop, if_pos hi]
  have e2 : l = l.take i ++ x :: l.drop (i + 1) := by
    conv => lhs; rw [← List.take_append_drop i l, drop_cons hx]
  rw [e1] at h1
  conv at h1 => rhs; rw [e2]
  simp only [crcR, List.foldl_append, List.foldl_cons] at h1
  exact hne (crcB_inj2 (crc_fold_inj _ h1))
theorem be_inj : ∀ (n : Nat) (a b : List UInt8), a.length = n → b.length = n → be a = be b → a = b := by
  intro n
  induction n with
  | zero => intro a b ha hb _; rw [List.eq_nil_of_length_eq_zero ha, List.eq_nil_of_length_eq_zero hb]
  | succ n ih =>
    intro a b ha hb h
    have ea : a = a.dropLast ++ [a.getLast (by intro e; rw [e] at ha; cases ha)] := (List.dropLast_concat_getLast _).symm
    have eb : b = b.dropLast ++ [b.getLast (by intro e; rw [e] at hb; cases hb)] := (List.dropLast_concat_getLast _).symm
    rw [ea, eb] at h
    rw [be_snoc, be_snoc] at h
    have h1 := (a.getLast (by intro e; rw [e] at ha; cases ha)).toNat_lt
    have h2 := (b.getLast (by intro e; rw [e] at hb; cases hb)).toNat_lt
    have e3 := ih a.dropLast b.dropLast (by simp [ha]) (by simp [hb]) (by omega)
    have e4 : a.getLast (by intro e; rw [e] at ha; cases ha) = b.getLast (by intro e; rw [e] at hb; cases hb) := UInt8.toNat_inj.1 (by rw [e3] at h; omega)
    rw [ea, eb, e3, e4]
end Go.Proofs.Ytkbggengagockaa
/-
  The journal, plain: a sector that was changed in one byte, or torn, is not good; what is then read.
  Conditions: none.
-/
namespace Go.Proofs.Ytkbggengagockaa
open Go Bf
theorem set_same {α : Type} {l : List α} {i : Nat} {x y : α} (hx : l[i]? = some x) (h : l.set i y = l) : y = x := by
  have h1 : (l.set i y)[i]? = l[i]? := by rw [h]
  rw [List.getElem?_set_self (List.getElem?_eq_some_iff.1 hx).1, hx] at h1
  exact Option.some.inj h1
/-- one byte changed -/
theorem dmg {s : List UInt8} {k k' i : Nat} {x y : UInt8} (hs : goodS s k) (hl : s.length = 128) (hx : s[i]? = some x) (hne : y ≠ x) : ¬ goodS (s.set i y) k' := by
  intro hg
  have hi : i < 128 := by have := (List.getElem?_eq_some_iff.1 hx).1; omega
  have g1 : be ((s.set i y).take 4) = be ((s.set i y).drop 124) := hg.2.1
  have g0 : be (s.take 4) = be (s.drop 124) := hs.2.1
  have c1 : (crc (((s.set i y).drop 8).take 116)).toNat = be (((s.set i y).drop 4).take 4) := hg.2.2.2.2.2.1
  have c0 : (crc ((s.drop 8).take 116)).toNat = be ((s.drop 4).take 4) := hs.2.2.2.2.2.1
  by_cases h4 : i < 4
  · rw [List.drop_set, if_pos (by omega), List.take_set, ← g0] at g1
    have e := be_inj 4 _ _ (by simp; omega) (by simp; omega) g1
    exact hne (set_same (by rw [List.getElem?_take, if_pos h4]; exact hx) e)
  · by_cases h8 : i < 8
    · rw [List.drop_set, if_pos (by omega), List.drop_set, if_neg (by omega), List.take_set, c0] at c1
      have e := be_inj 4 _ _ (by simp; omega) (by simp; omega) c1
      exact hne (set_same (by rw [List.getElem?_take, if_pos (by omega), List.getElem?_drop, show 4 + (i - 4) = i by omega]; exact hx) e.symm)
    · by_cases h124 : i < 124
      · have e4 : ((s.set i y).drop 4).take 4 = (s.drop 4).take 4 := by
          rw [List.drop_set, if_neg (by omega), List.take_set]
          exact List.set_eq_of_length_le (by simp; omega)
        rw [e4, List.drop_set, if_neg (by omega), List.take_set, ← c0] at c1
        exact crc_set (l := (s.drop 8).take 116) (i := i - 8) (x := x) (y := y) (by rw [List.getElem?_take, if_pos (by omega), List.getElem?_drop, show 8 + (i - 8) = i by omega]; exact hx) hne (UInt32.toNat_inj.1 c1)
      · rw [List.drop_set, if_neg (by omega), List.take_set] at g1
        have e4 : (s.take 4).set i y = s.take 4 := List.set_eq_of_length_le (by simp; omega)
        rw [e4, g0] at g1
        have e := be_inj 4 _ _ (by simp; omega) (by simp; omega) g1
        exact hne (set_same (by rw [List.getElem?_drop, show 124 + (i - 124) = i by omega]; exact hx) e.symm)
/-- torn in the middle -/
theorem torn {w s : List UInt8} {k : Nat} (hw : w.length = 128) (h : be (s.drop 124) < gen w) : ¬ goodS (w.take 64 ++ s.drop 64) k := by
  intro hg
  have g1 : be ((w.take 64 ++ s.drop 64).take 4) = be ((w.take 64 ++ s.drop 64).drop 124) := hg.2.1
  have hl : (w.take 64).length = 64 := by simp; omega
  have e124 : (w.take 64 ++ s.drop 64).drop 124 = s.drop 124 := by
    have e : (w.take 64 ++ s.drop 64).drop 124 = ((w.take 64 ++ s.drop 64).drop 64).drop 60 := by rw [List.drop_drop]
    rw [e, List.drop_left' hl, List.drop_drop]
  rw [e124, List.take_append_of_le_length (by omega), List.take_take, show min 4 64 = 4 from rfl] at g1
  have : gen w = be (w.take 4) := rfl
  omega
theorem piece_good {g at_ i : Nat} {p : List UInt8} (hg0 : g ≠ 0) (hg : g < 4294967296) (hat : at_ + occ p.length ≤ 65536) (hi : i < occ p.length) : goodS (bF g (at_ + i) (flg i (occ p.length)) (piece p i)) (at_ + i) := by
  have hpl := piece_length p i
  have hple := piece_le p i
  have hocc : occ p.length = max 1 ((p.length + 111) / 112) := rfl
  refine good_bF hple hg0 hg (by omega) (by rw [flg_toNat]; split <;> split <;> omega) (fun h => ?_) (fun h => ?_)
  · rw [flg_toNat] at h
    have : ¬ i + 1 = occ p.length := fun e => by rw [if_pos e] at h; omega
    omega
  · rw [flg_toNat] at h
    have : ¬ i = 0 := fun e => by rw [if_pos e] at h; split at h <;> omega
    omega
theorem secsAll_good {g : Nat} (hg0 : g ≠ 0) (hg : g < 4294967296) : ∀ (B : List (List UInt8)) (at_ j : Nat) (s : List UInt8), at_ + occs B ≤ 65536 → (secsAll g at_ B)[j]? = some s → goodS s (at_ + j)
  | [], _, _, _, _, h => by simp [secsAll] at h
  | p :: B, at_, j, s, hat, h => by
    rw [occs_cons] at hat
    have hN := secs_length g at_ p
    rw [secsAll] at h
    by_cases hj : j < occ p.length
    · rw [List.getElem?_append_left (by omega), secs, secsFrom, List.getElem?_map, List.getElem?_eq_getElem (by simpa using hj), List.getElem_range'] at h
      simp only [Option.map_some, Option.some.injEq, Nat.zero_add, Nat.one_mul] at h
      rw [← h]
      exact piece_good hg0 hg (by omega) hj
    · rw [List.getElem?_append_right (by omega), hN] at h
      have := secsAll_good hg0 hg B (at_ + occ p.length) (j - occ p.length) s (by omega) h
      rw [show at_ + occ p.length + (j - occ p.length) = at_ + j by omega] at this
      exact this
/-- a list of records on a new disk, one byte changed: what is read -/
theorem damage_plain {D A : List (List UInt8)} (hD : recs D = []) (hG : gmax D = 0) (hA : occs A ≤ D.length) (hl : D.length ≤ 4096) (h128 : ∀ s ∈ D, s.length = 128) {k i : Nat} {s : List UInt8} {x y : UInt8}
    (hk : k < occs A) (hs : (after D A)[k]? = some s) (hx : s[i]? = some x) (hne : y ≠ x) :
    ∃ m, m < A.length ∧ occs (A.take m) ≤ k ∧ k < occs (A.take (m + 1)) ∧ recs ((after D A).set k (s.set i y)) = A.take m := by
  have e0 : after D A = secsAll 1 0 A ++ D.drop (occs A) := by
    rw [after, hD, hG]
    simp [occs]
  have hlen := secsAll_length 1 A 0
  rw [e0, List.getElem?_append_left (by omega)] at hs
  have hgood := secsAll_good (g := 1) (by decide) (by decide) A 0 k s (by omega) hs
  have hl128 : s.length = 128 := (secsAll_mem (g := 1) (by decide) (List.mem_of_getElem? hs)).1
  have hbad : ¬ goodS (s.set i y) (0 + k) := dmg hgood hl128 hx hne
  obtain ⟨m, m1, m2, m3, m4⟩ := recsL_bad (g := 1) (by decide) (by decide) (s := s.set i y) (Y := (secsAll 1 0 A).drop (k + 1) ++ D.drop (occs A)) A 0 0 k hk (by omega) (by omega) hbad
  refine ⟨m, m1, m2, m3, ?_⟩
  rw [recs_eq, e0, List.set_append_left _ _ (by omega), List.set_eq_take_append_cons_drop, if_pos (by omega), List.append_assoc, List.cons_append]
  exact m4
end Go.Proofs.Ytkbggengagockaa
/-
  The journal: a sync that is stopped in the middle, plain.
  Conditions: none.
-/
namespace Go.Proofs.Ytkbggengagockaa
open Go Bf
/-- sectors that are written one behind the other -/
def posW : Nat → List (List UInt8) → List (Int × List UInt8)
  | _, [] => []
  | a, s :: S => ((a : Int), s) :: posW (a + 1) S
theorem posW_length : ∀ (S : List (List UInt8)) (a : Nat), (posW a S).length = S.length
  | [], _ => rfl
  | s :: S, a => by rw [posW, List.length_cons, List.length_cons, posW_length]
theorem posW_append : ∀ (S T : List (List UInt8)) (a : Nat), posW a (S ++ T) = posW a S ++ posW (a + S.length) T
  | [], T, a => by simp [posW]
  | s :: S, T, a => by
    rw [List.cons_append, posW, posW, posW_append, List.length_cons, List.cons_append, show a + 1 + S.length = a + (S.length + 1) by omega]
theorem posW_take : ∀ (S : List (List UInt8)) (a L : Nat), (posW a S).take L = posW a (S.take L)
  | [], _, L => by simp [posW]
  | s :: S, a, 0 => by simp [posW]
  | s :: S, a, L + 1 => by rw [posW, List.take_succ_cons, List.take_succ_cons, posW, posW_take]
theorem posW_get : ∀ (S : List (List UInt8)) (a j : Nat) (s : List UInt8), S[j]? = some s → (posW a S)[j]? = some (((a + j : Nat) : Int), s)
  | x :: S, a, 0, s, h => by
    simp only [List.getElem?_cons_zero, Option.some.injEq] at h
    subst h
    rfl
  | x :: S, a, j + 1, s, h => by
    rw [List.getElem?_cons_succ] at h
    rw [posW, List.getElem?_cons_succ, posW_get S (a + 1) j s h, show a + 1 + j = a + (j + 1) by omega]
theorem perf_posW : ∀ (S : List (List UInt8)) (a : Nat) (D : List (List UInt8)), a + S.length ≤ D.length → perf D (posW a S) = D.take a ++ S ++ D.drop (a + S.length)
  | [], a, D, _ => by simp [posW, perf]
  | s :: S, a, D, h => by
    rw [List.length_cons] at h
    have ih := perf_posW S (a + 1) (D.set a s) (by rw [List.length_set]; omega)
    have e : perf D (posW a (s :: S)) = perf (D.set a s) (posW (a + 1) S) := by
      simp only [posW, perf, List.foldl_cons, Int.toNat_natCast]
    rw [e, ih, take_set_succ _ _ _ (by omega), drop_set_lt _ _ _ _ (by omega), List.length_cons, show a + 1 + S.length = a + (S.length + 1) by omega]
    simp only [List.append_assoc, List.cons_append, List.nil_append]
theorem wr_posW (g at_ : Nat) (p : List UInt8) : ∀ (n i : Nat), (List.range' i n).map (wr1 g at_ p) = posW (at_ + i) (secsFrom g at_ p i n)
  | 0, i => by simp [secsFrom, posW]
  | n + 1, i => by
    rw [List.range'_succ, List.map_cons, wr_posW g at_ p n (i + 1), secsFrom, secsFrom, List.range'_succ, List.map_cons, posW]
    rfl
theorem wrs_posW (g at_ : Nat) (p : List UInt8) : wrs g at_ p = posW at_ (secs g at_ p) := by
  have := wr_posW g at_ p (occ p.length) 0
  rw [Nat.add_zero] at this
  rw [wrs, List.range_eq_range', secs]
  exact this
theorem wrsAll_posW (g : Nat) : ∀ (l : List (List UInt8)) (at_ : Nat), wrsAll g at_ l = posW at_ (secsAll g at_ l)
  | [], _ => rfl
  | b :: l, at_ => by rw [wrsAll, secsAll, posW_append, wrs_posW, secs_length, wrsAll_posW g l]
/-- the disk stops in the middle of a sector -/
theorem crash_plain {D B : List (List UInt8)} {L : Nat} (h1 : 1 ≤ D.length) (h2 : D.length ≤ 4096) (h128 : ∀ s ∈ D, s.length = 128) (hg : gmax D + 1 < 4294967296) (hB : occs (recs D) + occs B ≤ D.length) (hL : L < occs B) :
    ∃ D' m, syncF (dAfter ⟨D, [], (L : Int), false⟩ (wrsAll (gmax D + 1) (occs (recs D)) B)) = (⟨D', [], 0, true⟩, 440) ∧ D'.length = D.length ∧ (∀ s ∈ D', s.length = 128) ∧ gmax D' ≤ gmax D + 1 ∧ m ≤ B.length ∧ recs D' = recs D ++ B.take m := by
  generalize ha : occs (recs D) = a at hB
  have hS := secsAll_length (gmax D + 1) B a
  have hm := fun s => secsAll_mem (g := gmax D + 1) hg (l := B) (at_ := a) (s := s)
  have hbad := fun (s : List UInt8) (Y : List (List UInt8)) (least : Nat) (hle : least ≤ gmax D + 1) (hn : ¬ goodS s (a + L)) => recsL_bad (g := gmax D + 1) (by omega) hg (s := s) (Y := Y) B a least L hL (by omega) hle hn
  have hw := wrsAll_posW (gmax D + 1) B a
  have hr : runs (dAfter ⟨D, [], (L : Int), false⟩ (wrsAll (gmax D + 1) a B)) := wrsAll_runs ⟨⟨h1, h2, by show 0 ≤ 4096; decide, h128, (fun w hw => by cases hw), by show (-1 : Int) ≤ (L : Int); omega, by show (L : Int) ≤ 65536; omega⟩, rfl⟩ (by show a + occs B ≤ D.length; omega) rfl
  rw [hw] at hr ⊢
  generalize secsAll (gmax D + 1) a B = S at hS hm hbad hr
  obtain ⟨s, hs⟩ : ∃ s, S[L]? = some s := ⟨_, List.getElem?_eq_getElem (by omega)⟩
  obtain ⟨o, ho⟩ : ∃ o, D[a + L]? = some o := ⟨_, List.getElem?_eq_getElem (by omega)⟩
  have hs3 := hm s (List.mem_of_getElem? hs)
  have ho1 := h128 o (List.mem_of_getElem? ho)
  have hot := tail_le_gmax (List.mem_of_getElem? ho)
  have hp : perf D (posW a (S.take L)) = D.take a ++ S.take L ++ D.drop (a + L) := by
    rw [perf_posW _ _ _ (by rw [List.length_take]; omega), List.length_take, Nat.min_eq_left (by omega)]
  have hdc : D.drop (a + L) = o :: D.drop (a + L + 1) := by rw [List.drop_eq_getElem?_toList_append, ho]; rfl
  have hlen : (D.take a ++ S.take L).length = a + L := by rw [List.length_append, List.length_take, List.length_take]; omega
  have hbadS := fun (Y : List (List UInt8)) (least : Nat) (hle : least ≤ gmax D + 1) => hbad (s.take 64 ++ o.drop 64) Y least hle (torn hs3.1 (by rw [hs3.2.1]; omega))
  obtain ⟨g0, q1, q2⟩ := recs_behind h128 (S.take L ++ (s.take 64 ++ o.drop 64) :: D.drop (a + L + 1))
  rw [ha] at q2
  obtain ⟨m, m1, -, -, m4⟩ := hbadS (D.drop (a + L + 1)) g0 (by omega)
  rw [m4] at q2
  have ht128 : (s.take 64 ++ o.drop 64).length = 128 := by rw [List.length_append, List.length_take, List.length_drop]; omega
  refine ⟨D.take a ++ (S.take L ++ (s.take 64 ++ o.drop 64) :: D.drop (a + L + 1)), m, ?_, ?_, ?_, ?_, by omega, q2⟩
  · rw [syncF, if_pos hr, if_pos ⟨by show (0 : Int) ≤ (L : Int); omega, by show (L : Int) < ((([] : List (Int × List UInt8)) ++ posW a S).length : Int); rw [List.nil_append, posW_length]; omega⟩]
    have e1 : (dAfter ⟨D, [], (L : Int), false⟩ (posW a S)).pen = posW a S := rfl
    have e2 : (dAfter ⟨D, [], (L : Int), false⟩ (posW a S)).sec = D := rfl
    have e3 : (dAfter ⟨D, [], (L : Int), false⟩ (posW a S)).left.toNat = L := rfl
    rw [e1, e2, e3, posW_take, hp]
    have e4 : (posW a S).getD L (0, []) = (((a + L : Nat) : Int), s) := by rw [List.getD_eq_getElem?_getD, posW_get S a L s hs]; rfl
    rw [e4]
    dsimp only
    rw [Int.toNat_natCast]
    have e5 : (D.take a ++ S.take L ++ D.drop (a + L)).getD (a + L) [] = o := by
      rw [List.getD_eq_getElem?_getD, List.getElem?_append_right (by omega), hlen, Nat.sub_self, hdc]; rfl
    have e6 : (D.take a ++ S.take L ++ D.drop (a + L)).set (a + L) (s.take 64 ++ o.drop 64) = D.take a ++ (S.take L ++ (s.take 64 ++ o.drop 64) :: D.drop (a + L + 1)) := by
      rw [List.set_append_right _ _ (by omega), hlen, Nat.sub_self, hdc, List.set_cons_zero, List.append_assoc]
    rw [e5, e6]
  · rw [List.length_append, List.length_append, List.length_cons, List.length_take, List.length_take, List.length_drop]; omega
  · intro y hy
    rcases List.mem_append.1 hy with h | h
    · exact h128 y (List.mem_of_mem_take h)
    · rcases List.mem_append.1 h with h | h
      · exact (hm y (List.mem_of_mem_take h)).1
      · rcases List.mem_cons.1 h with rfl | h
        · exact ht128
        · exact h128 y (List.mem_of_mem_drop h)
  · refine gmax_le _ fun y hy => ?_
    have hD : ∀ y ∈ D, gen y ≤ gmax D + 1 ∧ be (y.drop 124) ≤ gmax D + 1 := fun y hy => by
      have := gen_le_gmax hy
      have := tail_le_gmax hy
      exact ⟨by omega, by omega⟩
    rcases List.mem_append.1 hy with h | h
    · exact hD y (List.mem_of_mem_take h)
    · rcases List.mem_append.1 h with h | h
      · have := hm y (List.mem_of_mem_take h)
        exact ⟨by omega, by omega⟩
      · rcases List.mem_cons.1 h with rfl | h
        · have hl : (s.take 64).length = 64 := by rw [List.length_take]; omega
          have e124 : (s.take 64 ++ o.drop 64).drop 124 = o.drop 124 := by
            have e : (s.take 64 ++ o.drop 64).drop 124 = ((s.take 64 ++ o.drop 64).drop 64).drop 60 := by rw [List.drop_drop]
            rw [e, List.drop_left' hl, List.drop_drop]
          have eg : gen (s.take 64 ++ o.drop 64) = gen s := by
            rw [gen, gen, List.take_append_of_le_length (by omega), List.take_take, show min 4 64 = 4 from rfl]
          rw [e124, eg]
          exact ⟨by omega, by omega⟩
        · exact hD y (List.mem_of_mem_drop h)
/-- what a sync comes to, stopped or not -/
theorem surv_sync {D B : List (List UInt8)} {L : Int} (hk : okJ ⟨(D.length : Int), ((recs D).length : Int), recs D ++ B⟩) (h128 : ∀ s ∈ D, s.length = 128) (hg : gmax D + 1 < 4294967296) (hL : -1 ≤ L) (hL2 : L ≤ 65536) :
    ∃ D', D'.length = D.length ∧ (∀ s ∈ D', s.length = 128) ∧ gmax D' ≤ gmax D + 1 ∧
     ((∃ L', syncJ ⟨(D.length : Int), ((recs D).length : Int), recs D ++ B⟩ ⟨D, [], L, false⟩ = (⟨(D.length : Int), ((recs D ++ B).length : Int), recs D ++ B⟩, ⟨D', [], L', false⟩, 0) ∧ recs D' = recs D ++ B) ∨
      (0 ≤ L ∧ ∃ m, syncJ ⟨(D.length : Int), ((recs D).length : Int), recs D ++ B⟩ ⟨D, [], L, false⟩ = (zJ, ⟨D', [], 0, true⟩, 440) ∧ m ≤ B.length ∧ recs D' = recs D ++ B.take m)) := by
  obtain ⟨k1, k2, k3, k4, k5⟩ := id hk
  dsimp only at k1 k2 k3 k4 k5
  rw [occs_append] at k5
  have hok : okD ⟨D, [], L, false⟩ := ⟨by show 1 ≤ D.length; omega, by show D.length ≤ 4096; omega, by show 0 ≤ 4096; decide, h128, (fun w hw => by cases hw), hL, hL2⟩
  have t1 : (recs D ++ B).take (Int.toNat ((recs D).length : Int)) = recs D := by rw [Int.toNat_natCast, List.take_left' rfl]
  have t2 : (recs D ++ B).drop (Int.toNat ((recs D).length : Int)) = B := by rw [Int.toNat_natCast, List.drop_left' rfl]
  have hsync : syncJ ⟨(D.length : Int), ((recs D).length : Int), recs D ++ B⟩ ⟨D, [], L, false⟩ = if ((recs D).length : Int) = ((recs D ++ B).length : Int) then (⟨(D.length : Int), ((recs D).length : Int), recs D ++ B⟩, ⟨D, [], L, false⟩, 0) else
      (let s := syncF (dAfter ⟨D, [], L, false⟩ (wrsAll (gmax D + 1) (occs (recs D)) B))
       if s.2 = 0 then (⟨(D.length : Int), ((recs D ++ B).length : Int), recs D ++ B⟩, s.1, 0) else (zJ, s.1, s.2)) := by
    rw [syncJ, if_pos hk, if_pos (idle_ok hok rfl rfl (fun h => h.2 rfl)), if_pos (show recs D = (recs D ++ B).take (Int.toNat ((recs D).length : Int)) from t1.symm), if_pos (show gmax D + 1 ≤ 4294967295 by omega)]
    dsimp only
    rw [t1, t2]
  rw [hsync]
  by_cases hB : ((recs D).length : Int) = ((recs D ++ B).length : Int)
  · have hBn : B = [] := by
      rw [List.length_append] at hB
      exact List.eq_nil_of_length_eq_zero (by omega)
    subst hBn
    rw [List.append_nil] at hB ⊢
    exact ⟨D, rfl, h128, by omega, .inl ⟨L, by rw [if_pos rfl], rfl⟩⟩
  rw [if_neg hB]
  by_cases hc : 0 ≤ L ∧ L < ((occs B : Nat) : Int)
  · obtain ⟨n, rfl⟩ : ∃ n : Nat, L = (n : Int) := ⟨L.toNat, by omega⟩
    obtain ⟨D', m, c1, c2, c3, c4, c5, c6⟩ := crash_plain (D := D) (B := B) (L := n) (by omega) (by omega) h128 hg (by omega) (by omega)
    refine ⟨D', c2, c3, c4, .inr ⟨hc.1, m, ?_, c5, c6⟩⟩
    rw [c1]
    rfl
  · have hr : runs (dAfter ⟨D, [], L, false⟩ (wrsAll (gmax D + 1) (occs (recs D)) B)) := wrsAll_runs ⟨hok, rfl⟩ (by show _ ≤ D.length; omega) rfl
    obtain ⟨L', hs⟩ : ∃ L' : Int, syncF (dAfter ⟨D, [], L, false⟩ (wrsAll (gmax D + 1) (occs (recs D)) B)) = (⟨after D B, [], L', false⟩, 0) := by
      refine ⟨if 0 ≤ L then L - ((wrsAll (gmax D + 1) (occs (recs D)) B).length : Int) else -1, ?_⟩
      rw [syncF, if_pos hr, if_neg (by
        show ¬ ((0 : Int) ≤ L ∧ L < ((([] : List (Int × List UInt8)) ++ wrsAll (gmax D + 1) (occs (recs D)) B).length : Int))
        rw [List.nil_append, wrsAll_length]
        exact hc)]
      have e1 : (dAfter ⟨D, [], L, false⟩ (wrsAll (gmax D + 1) (occs (recs D)) B)).pen = wrsAll (gmax D + 1) (occs (recs D)) B := rfl
      have e2 : (dAfter ⟨D, [], L, false⟩ (wrsAll (gmax D + 1) (occs (recs D)) B)).sec = D := rfl
      have e3 : (dAfter ⟨D, [], L, false⟩ (wrsAll (gmax D + 1) (occs (recs D)) B)).left = L := rfl
      rw [e1, e2, e3, perf_wrsAll _ _ _ _ (by omega), after]
    refine ⟨after D B, after_length (by omega), after_128 hg h128, gmax_after hg, .inl ⟨L', ?_, recs_after h128 (by omega) (by omega) hg⟩⟩
    rw [hs]
    rfl
/-! contracts with their results spelt out -/
/-- a writing of records during which the disk may stop -/
structure Crs where
  rcs : List (List UInt8)
  stop : Bool
  left : UInt8
def RCrs (M : Mem) (c : List Value) (x : Crs) : Prop := ∃ A k, c = [.slice A x.rcs.length k, .bool x.stop, .int .u8 (x.left.toNat : Int)] ∧ SlOf 1 RSec M (.slice A x.rcs.length k) x.rcs
theorem RCrs.mono (M M' : Mem) (c : List Value) (x : Crs) (hm : Mem.le M M') (h : RCrs M c x) : RCrs M' c x := let ⟨A, k, h1, h2⟩ := h; ⟨A, k, h1, h2.mono RSec.mono hm⟩
theorem fx_stop (M : Mem) (v : Value) (D : List (List UInt8)) (L : Int) (h : RDisk M v (dk D)) (h1 : 1 ≤ D.length) (h2 : D.length ≤ 4096) (h128 : ∀ s ∈ D, s.length = 128) (hL : 0 ≤ L) (hL2 : L ≤ 65536) :
    Fn0 Try.prog 29 [v, .int .i64 L] M (fun r M' => (∃ A c B k, r = .tuple #[.agg #[.slice A D.length c, .slice B 0 k, .int .i64 L, .bool false], .int .i64 0] ∧ RDisk M (.agg #[.slice A D.length c, .slice B 0 k, .int .i64 L, .bool false]) ⟨D, [], L, false⟩) ∧ M = M') :=
  Fn0.mono (stop_fn M v _ L h) fun v M' _ h => by
    rw [stopF, if_pos ⟨dk_ok h1 h2 h128, rfl⟩, if_neg (by omega)] at h
    exact ⟨h.1.openJ, h.2⟩
theorem fx_restart (M : Mem) (v : Value) (d : Dsk) (h : RDisk M v d) :
    Fn0 Try.prog 30 [v] M (fun r M' => (∃ A c B k, r = .agg #[.slice A d.sec.length c, .slice B 0 k, .int .i64 (-1), .bool false] ∧ RDisk M (.agg #[.slice A d.sec.length c, .slice B 0 k, .int .i64 (-1), .bool false]) (dk d.sec)) ∧ M = M') :=
  Fn0.mono (restart_fn M v d h) fun v M' _ h => by
    obtain ⟨⟨A, c, B, k, rfl, h1, h2⟩, h3⟩ := h
    exact ⟨⟨A, c, B, k, rfl, A, c, B, k, rfl, h1, h2⟩, h3⟩
theorem fx_syncL (M : Mem) (v w : Value) (j : Jr) (d : Dsk) (x : Jr) (y : Dsk) (e : Int) (h : RJr M v j) (hd : RDisk M w d) (hj : occs j.rcs ≤ 1000000000) (hs : syncJ j d = (x, y, e)) : Fn0 Try.prog 21 [v, w] M (fun r M' => ∃ A c A2 c2 B2 k2, r = .tuple #[.agg #[.int .i64 x.many, .int .i64 x.syn, .slice A x.rcs.length c], .agg #[.slice A2 y.sec.length c2, .slice B2 y.pen.length k2, .int .i64 y.left, .bool y.stop], .int .i64 e] ∧ RJr M' (.agg #[.int .i64 x.many, .int .i64 x.syn, .slice A x.rcs.length c]) x ∧ RDisk M' (.agg #[.slice A2 y.sec.length c2, .slice B2 y.pen.length k2, .int .i64 y.left, .bool y.stop]) y) :=
  Fn0.mono (sync_jfn M v w _ _ h hd hj) fun v M' _ h => by
    rw [hs] at h
    exact h.openJ
theorem addF_dk {D l : List (List UInt8)} (h1 : 1 ≤ D.length) (h2 : D.length ≤ 4096) (h128 : ∀ s ∈ D, s.length = 128) : ∃ B, addF ⟨(D.length : Int), ((recs D).length : Int), recs D⟩ l = ⟨(D.length : Int), ((recs D).length : Int), recs D ++ B⟩ ∧ okJ ⟨(D.length : Int), ((recs D).length : Int), recs D⟩ ∧ okJ ⟨(D.length : Int), ((recs D).length : Int), recs D ++ B⟩ := by
  have hr := recs_occs h128
  have hk : okJ ⟨(D.length : Int), ((recs D).length : Int), recs D⟩ := ⟨by show (1 : Int) ≤ (D.length : Int); omega, by show (D.length : Int) ≤ 4096; omega, by show (0 : Int) ≤ ((recs D).length : Int); omega, Int.le_refl _, by show ((occs (recs D) : Nat) : Int) ≤ (D.length : Int); omega⟩
  obtain ⟨e, k⟩ := addF_acc l hk
  exact ⟨_, e, hk, e ▸ k⟩
end Go.Proofs.Ytkbggengagockaa
