/-
  Matching: the contract of raise: what a supply gives to a request is made as great as possible.
  Conditions: none.
-/
import Derived.Test.YtmioocddmlfboaaM12
namespace Go.Proofs.Ytmioocddmlfboaa
open Go Bf
theorem sl_at (b j : Nat) : Option.map (fun x : Addr => x.add ((j + 1) * 1)) (some ⟨b, 0, none⟩) = some ⟨b, j + 1, none⟩ := by simp [Go.Addr.add]
attribute [local irreducible] Tr Exec Stab HasTy Go.Addr.add IntKind.wrap
/-- no way leads from j to a later request of the supply i -/
def Top (p : Pb) (a : Nat → Nat → Int) (i j : Nat) : Prop := ∃ X : Nat → Bool, Closed' p a (fun k => i < k) X ∧ X j = true ∧ ∀ b, b ≤ p.m → X b = true → j < b → a i b = 0
/-- what raise changes -/
def Raised (p : Pb) (a a' : Nat → Nat → Int) (i j : Nat) : Prop := (Bf.Flow p a' fun _ => 0) ∧ (∀ k, k < i → a' k = a k) ∧ (∀ b, b < j → a' i b = a i b)
theorem Found.top {fits : List (List Bool)} {sup need : List Int} (hv : Vld fits sup need) {rws : List (Nat × List Int)} {bs : List Nat} (hsh : Shape sup.length need.length bs rws) (hr : Bf.Rows (pbOf fits sup need) (amt rws)) {i j to bi : Nat} {row : List Int} (hi : rws[i]? = some (bi, row)) {tk gv : List Int} (h : Found rws fits need.length (i + 1) j (laterB row j) tk gv to false) : Top (pbOf fits sup need) (amt rws) i j := by
  obtain ⟨X, h1, h2, h3⟩ := h.closed hv hsh
  refine ⟨X, fun k hk hf => h1 k hk hf, h2, fun b hb hX hjb => ?_⟩
  have h4 := h3 b hX (by omega)
  have hi' := (List.getElem?_eq_some_iff.1 hi).1
  rw [hsh.n] at hi'
  have h5 := hr.nn i hi' b hb
  rw [amt_of hi] at h5 ⊢
  simp only [laterB, hjb, decide_true, Bool.true_and, decide_eq_false_iff_not] at h4
  omega
theorem sum_zero {l : List Int} (h : ∀ x ∈ l, 0 ≤ x) (hs : l.sum ≤ 0) : ∀ x ∈ l, x = 0 := by
  induction l with
  | nil => simp
  | cons y l ih =>
    have hl : 0 ≤ l.sum := by
      clear ih hs
      induction l with
      | nil => simp
      | cons z l ih =>
        have := h z (by simp)
        have := ih fun x hx => h x (by simp at hx ⊢; rcases hx with hx | hx <;> simp [hx])
        simp only [List.sum_cons]
        omega
    have hy := h y (by simp)
    simp only [List.sum_cons] at hs
    intro x hx
    rcases List.mem_cons.1 hx with rfl | hx
    · omega
    · exact ih (fun x hx => h x (by simp [hx])) (by omega) x hx
theorem top_end {fits : List (List Bool)} {sup need : List Int} {rws : List (Nat × List Int)} {i j bi : Nat} {row : List Int} (hi : rws[i]? = some (bi, row)) (hl : row.length = need.length + 1) (hnn : ∀ x ∈ row, 0 ≤ x) (hs : (row.drop (j + 1)).sum ≤ 0) : Top (pbOf fits sup need) (amt rws) i j := by
  have hz := sum_zero (fun x hx => hnn x (List.mem_of_mem_drop hx)) hs
  refine ⟨fun _ => true, fun _ _ _ _ _ _ _ _ _ => rfl, rfl, fun b hb _ hjb => ?_⟩
  have hb' : b ≤ need.length := hb
  obtain ⟨v, hv⟩ := get_of_lt (xs := row) (i := b) (by omega)
  rw [amt_of hi, getD_of hv]
  refine hz v (List.mem_iff_getElem?.2 ⟨b - (j + 1), ?_⟩)
  rw [List.getElem?_drop, show j + 1 + (b - (j + 1)) = b by omega]
  exact hv
/-- one round of raise -/
theorem raise_step {fits : List (List Bool)} {sup need : List Int} (hv : Vld fits sup need) {rws r2 : List (Nat × List Int)} {bs : List Nat} (hfl : Bf.Flow (pbOf fits sup need) (amt rws) fun _ => 0) (hs2 : Shape sup.length need.length bs r2) (h2 : Bf.Rows (pbOf fits sup need) (amt r2)) {i j to : Nat} {v : Int} (hi : i < sup.length) (hj : j < need.length) (hto : to ≤ need.length) (hjt : j < to) (hfit : (fits.getD i []).getD j false = true) (hv0 : 0 < v)
    (hle : v ≤ amt r2 i to) (hc : ∀ c, colOf (pbOf fits sup need) (amt r2) c = colOf (pbOf fits sup need) (amt rws) c + ((if c = to then v else 0) - (if c = j then v else 0))) (hsame : ∀ k, k ≤ i → r2[k]? = rws[k]?) :
    Raised (pbOf fits sup need) (amt rws) (amt (moveR v r2 (j, i, to))) i j ∧ amt (moveR v r2 (j, i, to)) i j = amt rws i j + v := by
  have hst := amt_move hs2 (v := v) (k := i) (b := j) (x := to) hi (by omega) hto (by omega)
  have hsrv : (pbOf fits sup need).srv i j := .inr ⟨hj, hfit⟩
  have ham : ∀ k, k ≤ i → amt r2 k = amt rws k := fun k hk => by
    funext b
    have := hsame k hk
    unfold amt
    rw [List.getD_eq_getElem?_getD (l := List.map _ r2), List.getD_eq_getElem?_getD (l := List.map _ rws), List.getElem?_map, List.getElem?_map, this]
  rw [hst]
  refine ⟨⟨⟨h2.step hi hto hsrv (by omega) (by omega) hle, fun b hb => ?_, fun _ _ => Int.le_refl _⟩, fun k hk => ?_, fun b hb => ?_⟩, ?_⟩
  · rw [col_step hi (by omega), hc]
    have := hfl.col b hb
    omega
  · rw [step_other (by omega)]
    exact ham k (by omega)
  · simp only [Bf.step, if_true]
    rw [if_neg (by omega), if_neg (by omega), ham i (Nat.le_refl _)]
  · simp only [Bf.step, if_true]
    rw [ham i (Nat.le_refl _)]
theorem Raised.trans {p : Pb} {a b c : Nat → Nat → Int} {i j : Nat} (h : Raised p a b i j) (h' : Raised p b c i j) : Raised p a c i j := ⟨h'.1, fun k hk => (h'.2.1 k hk).trans (h.2.1 k hk), fun x hx => (h'.2.2 x hx).trans (h.2.2 x hx)⟩
theorem moveR_comm {v : Int} {rws : List (Nat × List Int)} {i j to bi : Nat} {row : List Int} (hr : rws[i]? = some (bi, row)) (hne : j ≠ to) : moveR v rws (j, i, to) = rws.set i (bi, (row.set to (row.getD to 0 - v)).set j (row.getD j 0 + v)) := by
  rw [moveR_of hr, List.set_comm _ _ hne]
set_option maxHeartbeats 8000000 in
set_option maxRecDepth 20000 in
theorem raise_fn (M : Mem) (o : Loc) (A0 : Option Addr) (c0 : Nat) (fits : List (List Bool)) (sup need : List Int) (hv : Vld fits sup need) (hf : Fits2 M (.slice A0 fits.length c0) fits) (ho : o.fs = .slice A0 fits.length c0) (ho1 : o.cm ≤ 9223372036854775807) (ho2 : o.cl ≤ 9223372036854775807) (bs : List Nat)
    (rws : List (Nat × List Int)) (lack tk gv : List Int) (hsh : Shape sup.length need.length bs rws) (hll : lack.length = need.length) (hfl : Bf.Flow (pbOf fits sup need) (amt rws) (fun _ => 0)) (ltk : tk.length = 64) (lgv : gv.length = 65) (i j : Nat) (hi : i < sup.length) (hj : j < need.length) (hfit : (fits.getD i []).getD j false = true) :
    Bf.Fn Try.prog 32 [.pointer (some ⟨o.sb, 0, none⟩), .int .i64 (i : Int), .int .i64 (j : Int)] M (stL o (need.length + 1) rws lack tk gv)
      (fun _ M' A' => M = M' ∧ ∃ rws' tk' gv', A' = stL o (need.length + 1) rws' lack tk' gv' ∧ Shape sup.length need.length bs rws' ∧ tk'.length = 64 ∧ gv'.length = 65 ∧ Raised (pbOf fits sup need) (amt rws) (amt rws') i j ∧ Top (pbOf fits sup need) (amt rws') i j) := by
  have l1 := hv.ls
  have l2 := hv.ln
  obtain ⟨bi, hbi⟩ : ∃ bi, bs[i]? = some bi := get_of_lt (by rw [← hsh.bs, List.length_map, hsh.n]; exact hi)
  have hri : ∀ rws, Shape sup.length need.length bs rws → ∃ row, rws[i]? = some (bi, row) := fun rws h => by
    obtain ⟨⟨b, row⟩, hr⟩ := get_of_lt (xs := rws) (i := i) (by rw [h.n]; exact hi)
    have : (rws.map (·.1))[i]? = some b := by simp [hr]
    rw [h.bs, hbi] at this
    simp at this
    subst this
    exact ⟨row, hr⟩
  refine Fn.intro Try.func32 rfl rfl Try.ntmps32 rfl fun E F => ?_
  obtain ⟨row0, hr0⟩ := hri rws hsh
  have hp' : (ptrV (need.length + 1) rws)[i]? = some (.slice (some ⟨bi, 0, none⟩) (need.length + 1) (need.length + 1)) := by simp [ptrV, hr0]
  simp only [stL, List.cons_append, List.nil_append]
  refine Tr.own_some o.Am (by repeat (first | exact Has.here | apply Has.there)) (by rw [hsh.n]; omega) (fun hAm => ?_)
  have hn := hsh.n
  repeat (first | ((with_reducible refine Tr.step rfl ?_); (first | ((with_reducible refine Knd.move ?_); (refine Exec.stab rfl (Stab.move rfl) rfl ?_)) | ((with_reducible refine Knd.assign ?_); (refine Exec.stab rfl (Stab.assign rfl) rfl ?_)) | ((with_reducible refine Knd.load ?_); (first | (refine Exec.stab rfl (Stab.load rfl (tysOk.get rfl) rfl (by repeat (first | exact Has.here | apply Has.there)) rfl) rfl ?_) | (refine Exec.stab rfl (Stab.loadO rfl (tysOk.get rfl) rfl (by repeat (first | exact Has.here | apply Has.there)) (by assumption)) rfl ?_))) | ((with_reducible refine Knd.fieldAddr ?_); ((refine Exec.stab rfl (Stab.fieldZ rfl (tysOk.get rfl) rfl rfl (tysOk.get rfl) rfl) rfl ?_))) | ((with_reducible refine Knd.nilCheck ?_); (refine Exec.stab rfl (Stab.nilCheck rfl) rfl ?_)) | ((with_reducible refine Knd.makeFunc ?_); (refine Exec.stab rfl (Stab.makeFunc rfl rfl) rfl ?_)) | ((with_reducible refine Knd.store ?_); ((refine Exec.store rfl rfl (tysOk.get rfl) rfl (by first | rfl | assumption) (by repeat (first | exact Upd.here | apply Upd.there)) (by repeat (first | exact SetL.z | apply SetL.s)) ?_))) | ((with_reducible refine Knd.box ?_); (first | (refine Exec.box rfl rfl (fun b => ?_)) | (refine Exec.box1 rfl (by first | rfl | assumption) rfl (fun b => ?_)))) | ((with_reducible refine Knd.alloc ?_); (first | (refine Exec.alloc (tysOk.get rfl) rfl rfl (fun b => ?_)) | (refine Exec.alloc1 (tysOk.get rfl) rfl rfl rfl (fun b => ?_)))) | ((with_reducible refine Knd.indexAddr ?_); ((refine Exec.stab rfl (Stab.indexAddr rfl rfl (tysOk.get rfl) rfl (tysOk.get rfl) rfl (by omega) (by omega) (by first | rfl | assumption)) rfl ?_))))) | (with_reducible refine Tr.next ?_) | (with_reducible refine Tr.seq ?_) | (with_reducible refine Tr.region ?_) | (with_reducible refine Tr.nil ?_) | (with_reducible refine Tr.block ?_))
  generalize b = rb
  rename_i jb
  refine Tr.front (x := box jb 3 _) (by repeat (first | exact Del.here | apply Del.there)) ?_
  refine Tr.front (x := ownS 3 1 _ _ _ _) (by repeat (first | exact Del.here | apply Del.there)) ?_
  refine Tr.front (x := rowsR _) (by repeat (first | exact Del.here | apply Del.there)) ?_
  refine Tr.front (x := ownS 23 1 _ _ _ _) (by repeat (first | exact Del.here | apply Del.there)) ?_
  refine Tr.front (x := box o.sb 56 _) (by repeat (first | exact Del.here | apply Del.there)) ?_
  have hamt : ∀ rws, Shape sup.length need.length bs rws → (Bf.Flow (pbOf fits sup need) (amt rws) fun _ => 0) → ∀ b, b ≤ need.length → 0 ≤ amt rws i b ∧ amt rws i b ≤ 1048576 := fun rws h hf b hb => by
    obtain ⟨row, hr⟩ := hri rws h
    have hrl : row.length = need.length + 1 := h.row _ (List.mem_of_getElem? hr)
    rw [amt_of hr]
    obtain ⟨v, hv2⟩ := get_of_lt (xs := row) (i := b) (by omega)
    rw [getD_of hv2]
    exact Rows.bounds hv h hf.toRows _ (List.mem_of_getElem? hr) v (List.mem_of_getElem? hv2)
  refine Tr.loop (α := List (Nat × List Int) × List Int × List Int) (fun y => ⟨56, [(7, .func (.func 48) #[] #[.pointer (some ⟨jb, 0, none⟩), .pointer (some ⟨rb, 0, none⟩)]), (6, .pointer (some ⟨rb, 0, none⟩)), (5, .pointer (some ⟨jb, 0, none⟩)), (0, .pointer (some ⟨o.sb, 0, none⟩)), (1, .int .i64 (i : Int))], [], M, stL o (need.length + 1) y.1 lack y.2.1 y.2.2 ++ (box jb 3 [.int .i64 (j : Int)] :: box rb 23 [.slice (some ⟨bi, 0, none⟩) (need.length + 1) (need.length + 1)] :: F)⟩)
    (fun y => Shape sup.length need.length bs y.1 ∧ y.2.1.length = 64 ∧ y.2.2.length = 65 ∧ Raised (pbOf fits sup need) (amt rws) (amt y.1) i j) (fun y => (1048576 - amt y.1 i j).toNat) (rws, tk, gv) ⟨hsh, ltk, lgv, hfl, fun _ _ => rfl, fun _ _ => rfl⟩ (holds_sub (by repeat (first | exact SubFr.nil | refine SubFr.cons rfl ?_)) (by repeat (first | exact DropL.refl | apply DropL.skip))) (fun y hy => ?_)
  clear hsh ltk lgv hn hp' hr0
  clear row0
  obtain ⟨rw2, tk, gv⟩ := y
  obtain ⟨hsh, ltk, lgv, hra⟩ := hy
  simp only at hsh ltk lgv hra
  dsimp only
  simp only [stL, List.cons_append, List.nil_append]
  obtain ⟨row, hr0⟩ := hri rw2 hsh
  have hrl : row.length = need.length + 1 := hsh.row _ (List.mem_of_getElem? hr0)
  have hbd := Rows.bounds hv hsh hra.1.toRows
  have hrb : ∀ x ∈ row, 0 ≤ x ∧ x ≤ 1048576 := hbd _ (List.mem_of_getElem? hr0)
  have hp' : (ptrV (need.length + 1) rw2)[i]? = some (.slice (some ⟨bi, 0, none⟩) (need.length + 1) (need.length + 1)) := by simp [ptrV, hr0]
  unfold rowsR
  refine Tr.many_out (by repeat (first | exact Del.here | apply Del.there)) (rows_get hr0) ?_
  repeat (first | ((with_reducible refine Tr.step rfl ?_); (first | ((with_reducible refine Knd.load ?_); ((refine Exec.stab rfl (Stab.load rfl (tysOk.get rfl) rfl (by repeat (first | exact Has.here | apply Has.there)) rfl) rfl ?_))) | ((with_reducible refine Knd.binOp ?_); ((refine Exec.stab rfl (Stab.addi rfl rfl (by omega)) rfl ?_))) | ((with_reducible refine Knd.slice ?_); ((refine Exec.stab rfl (Stab.slice_l rfl rfl (tysOk.get rfl) rfl (tysOk.get rfl) rfl (by omega) (by omega)) rfl ?_))))) | (with_reducible refine Tr.seq ?_) | (with_reducible refine Tr.region ?_))
  rw [if_neg (show ¬ need.length + 1 = ((j : Int) + 1).toNat by omega), show ((j : Int) + 1).toNat = j + 1 by omega, sl_at, show need.length + 1 - (j + 1) = (row.drop (j + 1)).length by rw [List.length_drop]; omega]
  have hdl : (row.drop (j + 1)).length = need.length - j := by rw [List.length_drop]; omega
  have hsmall : Small (row.drop (j + 1)) := ⟨by omega, fun x hx => by have := hrb x (List.mem_of_mem_drop hx); omega⟩
  ((refine Tr.step rfl ?_))
  refine Exec.call (A := [box bi 3 (intV row)]) rfl (sum_fn M [box bi 3 (intV row)] (some ⟨bi, j + 1, none⟩) (row.drop (j + 1)).length (row.drop (j + 1)) (Nat.le_refl _) (fun _ => rfl) (by
    have := Src.boxP (M := M) (L := [box bi 3 (intV row)]) (b := bi) (off := j + 1) (t := 3) (m := (row.drop (j + 1)).length) (cs := intV row) .here
    rw [List.take_of_length_le (by simp)] at this
    simpa [intV, List.map_drop] using this) hsmall) (List.Perm.refl _) rfl ?_
  rintro _ _ _ _ ⟨rfl, rfl, rfl⟩
  refine Tr.many_in (rows_get hr0) ?_
  rw [rows_set, set_same hr0]
  refine Tr.front (x := ownS 23 1 _ _ _ _) (by repeat (first | exact Del.here | apply Del.there)) ?_
  refine Tr.front (x := box o.sb 56 _) (by repeat (first | exact Del.here | apply Del.there)) ?_
  by_cases hs0 : 0 < (row.drop (j + 1)).sum
  rotate_left
  · repeat (first | ((with_reducible refine Tr.step rfl ?_); (((with_reducible refine Knd.binOp ?_); ((refine Exec.stab rfl (Stab.int rfl rfl rfl) rfl ?_))))) | (with_reducible refine Tr.next ?_) | (with_reducible refine Tr.nil ?_) | (with_reducible refine Tr.exit ?_) | (with_reducible refine Tr.then_exit ?_) | ((with_reducible refine Tr.in_exit ?_ ?_); (exact rfl)) | (refine Tr.cond_f rfl (by first | (with_reducible assumption) | (with_reducible rfl) | (with_reducible exact (not_not_intro rfl)) | omega) ?_))
    refine Tr.give (r := box rb 23 _) (by repeat (first | exact Del.here | apply Del.there)) ?_
    refine Tr.give (r := box jb 3 _) (by repeat (first | exact Del.here | apply Del.there)) ?_
    refine Tr.doneA (A' := stL o (need.length + 1) rw2 lack tk gv) (by first | exact .inl rfl | exact .inr rfl) rfl (by repeat (exact RVs.nil)) (Mem.le.refl _) ⟨fun r hr => by simpa [stL, rowsR] using hr, fun h => by simpa [stL, rowsR] using h⟩ ⟨rfl, rw2, tk, gv, rfl, hsh, ltk, lgv, hra, top_end hr0 hrl (fun x hx => (hrb x hx).1) (by omega)⟩
  have hs := search_fn M o A0 c0 fits hf ho ho1 ho2 rw2 lack tk gv (by omega) (by rw [hsh.n]; omega) (by rw [hsh.n]; exact hv.lf) (fun r hr => by rw [hll]; exact hv.rows r hr) (fun x hx => by rw [hll]; exact hsh.row x hx) hbd ltk lgv j (i + 1) (by omega) (by omega) 48 [.pointer (some ⟨jb, 0, none⟩), .pointer (some ⟨rb, 0, none⟩)] (laterB row j) [box jb 3 [.int .i64 (j : Int)], box rb 23 [.slice (some ⟨bi, 0, none⟩) (need.length + 1) (need.length + 1)]] (fun tk gv b hb => by
    rw [hll] at hb ⊢
    exact later_fn M o (need.length + 1) rw2 lack tk gv i bi row hr0 hrl jb rb j b (by omega) (by omega) (by omega))
  rw [hll] at hs
  repeat (first | ((with_reducible refine Tr.step rfl ?_); (first | ((with_reducible refine Knd.move ?_); (refine Exec.stab rfl (Stab.move rfl) rfl ?_)) | ((with_reducible refine Knd.load ?_); ((refine Exec.stab rfl (Stab.load rfl (tysOk.get rfl) rfl (by repeat (first | exact Has.here | apply Has.there)) rfl) rfl ?_))) | ((with_reducible refine Knd.binOp ?_); ((refine Exec.stab rfl (Stab.int rfl rfl rfl) rfl ?_))))) | (with_reducible refine Tr.next ?_) | (with_reducible refine Tr.seq ?_) | (with_reducible refine Tr.region ?_) | (with_reducible refine Tr.nil ?_) | (with_reducible refine Tr.skip ?_) | (with_reducible refine Tr.block ?_) | (refine Tr.cond_t rfl (by first | (with_reducible assumption) | (with_reducible rfl) | (with_reducible exact (not_not_intro rfl)) | omega) ?_))
  ((refine Tr.step rfl ?_))
  refine Exec.call (A := stL o (need.length + 1) rw2 lack tk gv ++ [box jb 3 [.int .i64 (j : Int)], box rb 23 [.slice (some ⟨bi, 0, none⟩) (need.length + 1) (need.length + 1)]]) (F := F) (by show some [_, _, _, _] = some [_, _, _, _]; rw [show (((i + 1 : Nat) : Int) - 1) = (i : Int) by omega]) hs (List.Perm.refl _) rfl ?_
  rintro _ _ _ _ ⟨to, ok, tk', gv', rfl, rfl, rfl, hF⟩
  simp only [stL, List.cons_append, List.nil_append]
  cases ok
  · repeat (first | ((with_reducible refine Tr.step rfl ?_); (first | ((with_reducible refine Knd.move ?_); (refine Exec.stab rfl (Stab.move rfl) rfl ?_)) | ((with_reducible refine Knd.assign ?_); (refine Exec.stab rfl (Stab.assign rfl) rfl ?_)) | ((with_reducible refine Knd.unOp ?_); ((refine Exec.stab rfl (Stab.not rfl) rfl ?_))) | ((with_reducible refine Knd.extract ?_); (refine Exec.stab rfl (Stab.extract rfl rfl) rfl ?_)))) | (with_reducible refine Tr.next ?_) | (with_reducible refine Tr.seq ?_) | (with_reducible refine Tr.region ?_) | (with_reducible refine Tr.nil ?_) | (with_reducible refine Tr.ret ?_) | (with_reducible refine Tr.then_ret ?_) | (with_reducible refine Tr.in_ret ?_) | (refine Tr.cond_bt rfl (by first | (with_reducible rfl) | (with_reducible assumption) | (with_reducible exact Bool.not_true) | (with_reducible exact Bool.not_false)) ?_))
    refine Tr.give (r := box rb 23 _) (by repeat (first | exact Del.here | apply Del.there)) ?_
    refine Tr.give (r := box jb 3 _) (by repeat (first | exact Del.here | apply Del.there)) ?_
    obtain ⟨ord, hco, -⟩ := id hF
    refine Tr.doneA (A' := stL o (need.length + 1) rw2 lack tk' gv') (by first | exact .inl rfl | exact .inr rfl) rfl (by repeat (exact RVs.nil)) (Mem.le.refl _) ⟨fun r hr => by simpa [stL] using hr, fun h => by simpa [stL] using h⟩ ⟨rfl, rw2, tk', gv', rfl, hsh, hco.ltk, hco.lgv, hra, hF.top hv hsh hra.1.toRows hr0⟩
  obtain ⟨m1, m2, m3, m4, m5, m6, P, p1, p2, p3, p4, p5⟩ := hF.move hv hsh hra.1.toRows
  simp only [laterB, Bool.and_eq_true, decide_eq_true_eq] at m3
  obtain ⟨m3, m7⟩ := m3
  obtain ⟨x, hx⟩ := get_of_lt (xs := row) (i := to) (by omega)
  have hx0 : row.getD to 0 = x := getD_of hx
  rw [hx0] at m7
  have hxr := hrb x (List.mem_of_getElem? hx)
  have hxv : nthL (intV row) to = some (.int .i64 x) := by rw [nthL_eq]; exact intV_get hx
  obtain ⟨q1, q2, q3, q4, q5⟩ := p5 x m7
  have hmo := move_fn M o ho1 rw2 lack tk' gv' (by rw [hsh.n]; omega) need.length l2 bs (by rw [hsh.n]; exact hsh) hbd m5 m6 j to m4 (by omega) P p1 p2 p3 x (by omega) (by omega)
  generalize hvv : minL rw2 x P = v at *
  have hsame : ∀ k, k ≤ i → (movesR v rw2 P)[k]? = rw2[k]? := fun k hk => movesR_other (p4 k (by omega))
  have hri2 : (movesR v rw2 P)[i]? = some (bi, row) := by rw [hsame i (Nat.le_refl _)]; exact hr0
  have hst := raise_step hv hra.1 q3 q4 hi hj m1 m3 hfit q1 (by rw [amt_of hri2, hx0]; exact q2) q5 hsame
  refine Tr.many_out (by repeat (first | exact Del.here | apply Del.there)) (rows_get hr0) ?_
  repeat (first | ((with_reducible refine Tr.step rfl ?_); (first | ((with_reducible refine Knd.move ?_); (refine Exec.stab rfl (Stab.move rfl) rfl ?_)) | ((with_reducible refine Knd.assign ?_); (refine Exec.stab rfl (Stab.assign rfl) rfl ?_)) | ((with_reducible refine Knd.load ?_); (first | (refine Exec.stab rfl (Stab.load rfl (tysOk.get rfl) rfl (by repeat (first | exact Has.here | apply Has.there)) rfl) rfl ?_) | (refine Exec.stab rfl (Stab.load rfl (tysOk.get rfl) rfl (by repeat (first | exact Has.here | apply Has.there)) (by assumption)) rfl ?_))) | ((with_reducible refine Knd.unOp ?_); ((refine Exec.stab rfl (Stab.not rfl) rfl ?_))) | ((with_reducible refine Knd.extract ?_); (refine Exec.stab rfl (Stab.extract rfl rfl) rfl ?_)) | ((with_reducible refine Knd.indexAddr ?_); ((refine Exec.stab rfl (Stab.indexB0 rfl rfl (tysOk.get rfl) rfl (tysOk.get rfl) rfl (by omega) (by omega)) rfl ?_))))) | (with_reducible refine Tr.next ?_) | (with_reducible refine Tr.seq ?_) | (with_reducible refine Tr.region ?_) | (with_reducible refine Tr.nil ?_) | (with_reducible refine Tr.skip ?_) | (refine Tr.cond_bf rfl (by first | (with_reducible rfl) | (with_reducible assumption) | (with_reducible exact Bool.not_true) | (with_reducible exact Bool.not_false)) ?_))
  refine Tr.many_in (rows_get hr0) ?_
  rw [rows_set, set_same hr0]
  refine Tr.front (x := ownS 23 1 _ _ _ _) (by repeat (first | exact Del.here | apply Del.there)) ?_
  refine Tr.front (x := box o.sb 56 _) (by repeat (first | exact Del.here | apply Del.there)) ?_
  ((refine Tr.step rfl ?_))
  refine Exec.call (A := stL o (need.length + 1) rw2 lack tk' gv') rfl hmo (List.Perm.refl _) rfl ?_
  rintro _ _ _ _ ⟨rfl, rfl, rfl⟩
  simp only [stL, List.cons_append, List.nil_append]
  have hm2 := q3.n.trans hsh.n.symm
  obtain ⟨y, hy⟩ := get_of_lt (xs := row) (i := j) (by omega)
  have hyr := hrb y (List.mem_of_getElem? hy)
  have hyv : nthL (intV (row.set to (x - v))) j = some (.int .i64 y) := by rw [nthL_eq]; exact intV_get (by rw [List.getElem?_set_ne (by omega)]; exact hy)
  have hil : (intV row).length = need.length + 1 := by simp [hrl]
  have hil2 : (intV (row.set to (x - v))).length = need.length + 1 := by simp [hrl]
  unfold rowsR
  refine Tr.many_out (by repeat (first | exact Del.here | apply Del.there)) (rows_get hri2) ?_
  repeat (first | ((with_reducible refine Tr.step rfl ?_); (first | ((with_reducible refine Knd.move ?_); (refine Exec.stab rfl (Stab.move rfl) rfl ?_)) | ((with_reducible refine Knd.assign ?_); (refine Exec.stab rfl (Stab.assign rfl) rfl ?_)) | ((with_reducible refine Knd.load ?_); (first | (refine Exec.stab rfl (Stab.load rfl (tysOk.get rfl) rfl (by repeat (first | exact Has.here | apply Has.there)) rfl) rfl ?_) | (refine Exec.stab rfl (Stab.load rfl (tysOk.get rfl) rfl (by repeat (first | exact Has.here | apply Has.there)) (by assumption)) rfl ?_))) | ((with_reducible refine Knd.binOp ?_); ((refine Exec.stab rfl (Stab.subi rfl rfl (by omega)) rfl ?_))) | ((with_reducible refine Knd.store ?_); ((refine Exec.storeS rfl rfl (tysOk.get rfl) rfl (by first | rfl | assumption) (by repeat (first | exact Upd.here | apply Upd.there)) (by omega) ?_))) | ((with_reducible refine Knd.indexAddr ?_); ((refine Exec.stab rfl (Stab.indexB0 rfl rfl (tysOk.get rfl) rfl (tysOk.get rfl) rfl (by omega) (by omega)) rfl ?_))))) | (with_reducible refine Tr.next ?_) | (with_reducible refine Tr.seq ?_) | (with_reducible refine Tr.region ?_) | (with_reducible refine Tr.nil ?_))
  refine Tr.cells (cs' := intV (row.set to (x - v))) (by repeat (first | exact Upd.here | apply Upd.there)) (intV_set _ _ _) ?_
  repeat (first | ((with_reducible refine Tr.step rfl ?_); (first | ((with_reducible refine Knd.move ?_); (refine Exec.stab rfl (Stab.move rfl) rfl ?_)) | ((with_reducible refine Knd.load ?_); ((refine Exec.stab rfl (Stab.load rfl (tysOk.get rfl) rfl (by repeat (first | exact Has.here | apply Has.there)) (by assumption)) rfl ?_))) | ((with_reducible refine Knd.binOp ?_); ((refine Exec.stab rfl (Stab.addi rfl rfl (by omega)) rfl ?_))) | ((with_reducible refine Knd.store ?_); ((refine Exec.storeS rfl rfl (tysOk.get rfl) rfl (by first | rfl | assumption) (by repeat (first | exact Upd.here | apply Upd.there)) (by omega) ?_))) | ((with_reducible refine Knd.indexAddr ?_); ((refine Exec.stab rfl (Stab.indexB0 rfl rfl (tysOk.get rfl) rfl (tysOk.get rfl) rfl (by omega) (by omega)) rfl ?_))))) | (with_reducible refine Tr.next ?_) | (with_reducible refine Tr.nil ?_) | (with_reducible refine Tr.in_normal ?_))
  refine Tr.cells (cs' := intV ((row.set to (x - v)).set j (y + v))) (by repeat (first | exact Upd.here | apply Upd.there)) (intV_set _ _ _) ?_
  repeat (fail)
  refine Tr.front (x := many _) (by repeat (first | exact Del.here | apply Del.there)) ?_
  refine Tr.front (x := box bi 3 _) (by repeat (first | exact Del.here | apply Del.there)) ?_
  refine Tr.many_in (rows_get hri2) ?_
  rw [rows_set]
  refine Tr.front (x := ownS 23 1 _ _ _ _) (by repeat (first | exact Del.here | apply Del.there)) ?_
  refine Tr.front (x := box o.sb 56 _) (by repeat (first | exact Del.here | apply Del.there)) ?_
  have hmv : moveR v (movesR v rw2 P) (j, i, to) = (movesR v rw2 P).set i (bi, (row.set to (x - v)).set j (y + v)) := by rw [moveR_comm hri2 (by omega), hx0, getD_of hy]
  rw [← hmv]
  have hsh3 := q3.move v (e := (j, i, to)) hi
  have hptr : ∀ r : List (Nat × List Int), ptrV (need.length + 1) r = (r.map (·.1)).map fun x => .slice (some ⟨x, 0, none⟩) (need.length + 1) (need.length + 1) := fun r => by simp [ptrV]
  have hptr2 : ptrV (need.length + 1) (movesR v rw2 P) = ptrV (need.length + 1) (moveR v (movesR v rw2 P) (j, i, to)) := by rw [hptr, hptr, q3.bs, hsh3.bs]
  have hm3 : (movesR v rw2 P).length = (moveR v (movesR v rw2 P) (j, i, to)).length := q3.n.trans hsh3.n.symm
  rw [hptr2, hm3]
  have h9 := (hamt _ hsh3 hst.1.1 j (by omega)).2
  have h10 := hamt _ hsh hra.1 j (by omega)
  refine Tr.again (moveR v (movesR v rw2 P) (j, i, to), tk', gv') ⟨hsh3, m5, m6, hra.trans hst.1⟩ (by simp only; rw [hst.2] at h9 ⊢; omega) (holds_sub (by repeat (first | exact SubFr.nil | refine SubFr.cons rfl ?_)) (by repeat (first | exact DropL.refl | apply DropL.skip)))
end Go.Proofs.Ytmioocddmlfboaa
