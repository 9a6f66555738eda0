/-
  Matching: the contract of move: what is moved along the way that a search found.
  Conditions: none.
-/
import Derived.Test.YtmioocddmlfboaaM10
import Derived.Test.YtmioocddmlfboaaBfHall
namespace Go.Proofs.Ytmioocddmlfboaa
open Go Bf
attribute [local irreducible] Tr Exec Stab HasTy Go.Addr.add IntKind.wrap
/-- the way back from b to a: requests, supplies, requests before -/
inductive Path (tk gv : List Int) (a : Nat) : Nat → List (Nat × Nat × Nat) → Prop
  | nil : Path tk gv a a []
  | cons {b k x : Nat} {l : List (Nat × Nat × Nat)} (hg : gv.getD b 0 = (k : Int)) (hk : tk.getD k 0 = (x : Int)) (h : Path tk gv a x l) : Path tk gv a b ((b, k, x) :: l)
structure Edge (rws : List (Nat × List Int)) (fits : List (List Bool)) (R r1 : Nat) (e : Nat × Nat × Nat) : Prop where
  k : e.2.1 < rws.length
  r : r1 ≤ e.2.1
  b : e.1 ≤ R
  x : e.2.2 ≤ R
  am : amt rws e.2.1 e.2.2 ≠ 0
  sv : srvB fits R e.2.1 e.1 = true
  ne : e.2.2 ≠ e.1
theorem nodup_idx {l : List Nat} (h : l.Nodup) {i j x : Nat} (hi : l[i]? = some x) (hj : l[j]? = some x) : i = j := by
  have h1 := (List.getElem?_eq_some_iff.1 hi).1
  have h2 := (List.getElem?_eq_some_iff.1 hj).1
  exact (List.getElem?_inj h1 h).1 (hi.trans hj.symm)
theorem Core.path {rws : List (Nat × List Int)} {fits : List (List Bool)} {R r1 a : Nat} {tk gv : List Int} {ord : List Nat} (h : Core rws fits R r1 a tk gv ord) :
    ∀ (i b : Nat), ord[i]? = some b → ∃ l, Path tk gv a b l ∧ (∀ e ∈ l, Edge rws fits R r1 e ∧ tk.getD e.2.1 0 = (e.2.2 : Int) ∧ ∃ j1 j2, j1 < j2 ∧ j2 ≤ i ∧ ord[j2]? = some e.1 ∧ ord[j1]? = some e.2.2) ∧ (l.map (·.2.1)).Nodup := by
  intro i
  induction i using Nat.strongRecOn with
  | _ i ih =>
  intro b hi
  by_cases h0 : i = 0
  · subst h0
    have := h.hd.1.symm.trans hi
    simp at this
    subst this
    exact ⟨[], .nil, by simp, by simp⟩
  · obtain ⟨j, x, k, g1, g2, g3, g4, g5, g6, g7, g8⟩ := h.tree i b hi (by omega)
    obtain ⟨l, l1, l2, l3⟩ := ih j g1 x g2
    refine ⟨(b, k, x) :: l, .cons g5 g6 l1, ?_, ?_⟩
    · intro e he
      rcases List.mem_cons.1 he with rfl | he
      · refine ⟨⟨g3, g4, h.le b (List.mem_of_getElem? hi), h.le x (List.mem_of_getElem? g2), g7, g8, fun e => ?_⟩, g6, j, i, g1, Nat.le_refl _, hi, g2⟩
        simp only at e
        subst e
        have := nodup_idx h.nd hi g2
        omega
      · obtain ⟨h1, h2, j1, j2, h3, h4, h5, h6⟩ := l2 e he
        exact ⟨h1, h2, j1, j2, h3, by omega, h5, h6⟩
    · rw [List.map_cons, List.nodup_cons]
      refine ⟨fun hm => ?_, l3⟩
      obtain ⟨e, he, hek⟩ := List.mem_map.1 hm
      obtain ⟨h1, h2, j1, j2, h3, h4, h5, h6⟩ := l2 e he
      simp only at hek
      rw [hek, g6] at h2
      have e2 : x = e.2.2 := by omega
      rw [← e2] at h6
      have := nodup_idx h.nd h6 g2
      omega
/-- one change: the supply gives v more to b and less to x -/
def moveR (v : Int) (rws : List (Nat × List Int)) (e : Nat × Nat × Nat) : List (Nat × List Int) :=
  rws.set e.2.1 ((rws.getD e.2.1 (0, [])).1, ((rws.getD e.2.1 (0, [])).2.set e.1 (amt rws e.2.1 e.1 + v)).set e.2.2 (amt rws e.2.1 e.2.2 - v))
def movesR (v : Int) (rws : List (Nat × List Int)) (l : List (Nat × Nat × Nat)) : List (Nat × List Int) := l.foldl (moveR v) rws
def minL (rws : List (Nat × List Int)) (n : Int) (l : List (Nat × Nat × Nat)) : Int := l.foldl (fun n e => min n (amt rws e.2.1 e.2.2)) n
theorem minL_app (rws : List (Nat × List Int)) (n : Int) (l : List (Nat × Nat × Nat)) (e : Nat × Nat × Nat) : minL rws n (l ++ [e]) = min (minL rws n l) (amt rws e.2.1 e.2.2) := by simp [minL, List.foldl_append]
theorem movesR_app (v : Int) (rws : List (Nat × List Int)) (l : List (Nat × Nat × Nat)) (e : Nat × Nat × Nat) : movesR v rws (l ++ [e]) = moveR v (movesR v rws l) e := by simp [movesR, List.foldl_append]
theorem minL_le (rws : List (Nat × List Int)) : ∀ (l : List (Nat × Nat × Nat)) (n : Int), minL rws n l ≤ n ∧ ∀ e ∈ l, minL rws n l ≤ amt rws e.2.1 e.2.2
  | [], n => ⟨Int.le_refl _, by simp⟩
  | e :: l, n => by
    have h := minL_le rws l (min n (amt rws e.2.1 e.2.2))
    refine ⟨Int.le_trans h.1 (by omega), fun e' he => ?_⟩
    rcases List.mem_cons.1 he with rfl | he
    · exact Int.le_trans h.1 (by omega)
    · exact h.2 e' he
theorem minL_pos (rws : List (Nat × List Int)) {c : Int} : ∀ (l : List (Nat × Nat × Nat)) (n : Int), c ≤ n → (∀ e ∈ l, c ≤ amt rws e.2.1 e.2.2) → c ≤ minL rws n l
  | [], n, h, _ => h
  | e :: l, n, h, hl => minL_pos rws l (min n (amt rws e.2.1 e.2.2)) (by have := hl e (by simp); omega) fun e' he => hl e' (by simp [he])
theorem amt_of {rws : List (Nat × List Int)} {k bk : Nat} {row : List Int} {b : Nat} (hr : rws[k]? = some (bk, row)) : amt rws k b = row.getD b 0 := by
  unfold amt
  rw [getD_of (d := []) (show (rws.map (·.2))[k]? = some row by simp [hr])]
theorem moveR_of {v : Int} {rws : List (Nat × List Int)} {b k x bk : Nat} {row : List Int} (hr : rws[k]? = some (bk, row)) : moveR v rws (b, k, x) = rws.set k (bk, (row.set b (row.getD b 0 + v)).set x (row.getD x 0 - v)) := by
  unfold moveR
  simp only [amt_of hr, getD_of (d := (0, [])) hr]
theorem moveR_len (v : Int) (rws : List (Nat × List Int)) (e : Nat × Nat × Nat) : (moveR v rws e).length = rws.length := by simp [moveR]
theorem moveR_other {v : Int} {rws : List (Nat × List Int)} {e : Nat × Nat × Nat} {k : Nat} (h : k ≠ e.2.1) : (moveR v rws e)[k]? = rws[k]? := by
  unfold moveR
  rw [List.getElem?_set_ne (Ne.symm h)]
theorem movesR_len (v : Int) : ∀ (l : List (Nat × Nat × Nat)) (rws : List (Nat × List Int)), (movesR v rws l).length = rws.length
  | [], _ => rfl
  | e :: l, rws => (movesR_len v l (moveR v rws e)).trans (moveR_len v rws e)
theorem movesR_other {v : Int} {k : Nat} : ∀ {l : List (Nat × Nat × Nat)} {rws : List (Nat × List Int)}, k ∉ l.map (·.2.1) → (movesR v rws l)[k]? = rws[k]?
  | [], _, _ => rfl
  | e :: l, rws, h => by
    simp only [List.map_cons, List.mem_cons, not_or] at h
    exact (movesR_other (l := l) h.2).trans (moveR_other h.1)
/-- the blocks remain, and the lengths -/
structure Shape (n R : Nat) (bs : List Nat) (rws : List (Nat × List Int)) : Prop where
  n : rws.length = n
  bs : rws.map (·.1) = bs
  row : ∀ x ∈ rws, x.2.length = R + 1
theorem Shape.set {n R : Nat} {bs : List Nat} {rws : List (Nat × List Int)} (h : Shape n R bs rws) {k bk : Nat} {row row' : List Int} (hr : rws[k]? = some (bk, row)) (hl : row'.length = row.length) : Shape n R bs (rws.set k (bk, row')) := by
  refine ⟨by simpa using h.n, ?_, fun x hx => ?_⟩
  · rw [List.map_set, ← h.bs, set_same]
    simp [hr]
  · rcases List.mem_or_eq_of_mem_set hx with hx | rfl
    · exact h.row x hx
    · show row'.length = _
      rw [hl]; exact h.row _ (List.mem_of_getElem? hr)
theorem Shape.move {n R : Nat} {bs : List Nat} {rws : List (Nat × List Int)} (h : Shape n R bs rws) (v : Int) {e : Nat × Nat × Nat} (hk : e.2.1 < n) : Shape n R bs (moveR v rws e) := by
  obtain ⟨b, k, x⟩ := e
  obtain ⟨⟨bk, row⟩, hr⟩ := get_of_lt (xs := rws) (i := k) (by rw [h.n]; exact hk)
  rw [moveR_of hr]
  exact h.set hr (by simp)
theorem Shape.moves {n R : Nat} {bs : List Nat} (v : Int) : ∀ {l : List (Nat × Nat × Nat)} {rws : List (Nat × List Int)}, Shape n R bs rws → (∀ e ∈ l, e.2.1 < n) → Shape n R bs (movesR v rws l)
  | [], _, h, _ => h
  | e :: l, rws, h, hl => Shape.moves v (l := l) (h.move v (hl e (by simp))) fun e he => hl e (by simp [he])
theorem amt_move {n R : Nat} {bs : List Nat} {rws : List (Nat × List Int)} (h : Shape n R bs rws) {v : Int} {b k x : Nat} (hk : k < n) (hb : b ≤ R) (hx : x ≤ R) (hne : x ≠ b) : amt (moveR v rws (b, k, x)) = Bf.step (amt rws) k x b v := by
  funext k' c
  obtain ⟨⟨bk, row⟩, hr⟩ := get_of_lt (xs := rws) (i := k) (by rw [h.n]; exact hk)
  have hl := h.row _ (List.mem_of_getElem? hr)
  simp only at hl
  rw [moveR_of hr]
  by_cases e : k' = k
  · subst e
    rw [amt_of (List.getElem?_set_self (List.getElem?_eq_some_iff.1 hr).1)]
    simp only [Bf.step, if_true, amt_of hr]
    by_cases e1 : c = b
    · subst e1
      rw [getD_set_ne' hne, getD_set_self' (by omega), if_pos rfl]
    · rw [if_neg e1]
      by_cases e2 : c = x
      · subst e2
        rw [getD_set_self' (by simp; omega), if_pos rfl]
      · rw [getD_set_ne' (Ne.symm e2), getD_set_ne' (Ne.symm e1), if_neg e2]
  · rw [step_other e]
    unfold amt
    have : ((List.map (·.2) rws).set k ((row.set b (row.getD b 0 + v)).set x (row.getD x 0 - v))).getD k' [] = (List.map (·.2) rws).getD k' [] := by
      rw [List.getD_eq_getElem?_getD, List.getElem?_set_ne (Ne.symm e), ← List.getD_eq_getElem?_getD]
    rw [List.map_set]
    exact congrArg (fun r : List Int => r.getD c 0) this
/-- what moving along a way changes -/
theorem moves_ok {p : Pb} {tk gv : List Int} {a : Nat} {n R : Nat} {bs : List Nat} {v : Int} (hn : p.n = n) (hR : p.m = R) (hv : 0 ≤ v) : ∀ {l : List (Nat × Nat × Nat)} {rws : List (Nat × List Int)} {b : Nat}, Path tk gv a b l → Shape n R bs rws → (l.map (·.2.1)).Nodup →
    (∀ e ∈ l, e.2.1 < n ∧ e.2.2 ≤ R ∧ p.srv e.2.1 e.1 ∧ e.2.2 ≠ e.1 ∧ v ≤ amt rws e.2.1 e.2.2) → Bf.Rows p (amt rws) →
    Bf.Rows p (amt (movesR v rws l)) ∧ ∀ c, colOf p (amt (movesR v rws l)) c = colOf p (amt rws) c + ((if c = b then v else 0) - (if c = a then v else 0))
  | _, rws, _, .nil, _, _, _, hr => ⟨hr, fun c => by show colOf p (amt rws) c = _; omega⟩
  | _, rws, b, .cons (k := k) (x := x) (l := l) hg hk hp, hs, hnd, he, hr => by
    obtain ⟨h1, h2, h3, h4, h5⟩ := he (b, k, x) (by simp)
    simp only at h1 h2 h3 h4 h5
    have hb : b ≤ R := by rw [← hR]; exact Bf.Pb.srv_le h3
    have hst := amt_move hs (v := v) h1 hb h2 h4
    have hr2 : Bf.Rows p (amt (moveR v rws (b, k, x))) := by
      rw [hst]
      exact hr.step (by omega) (by omega) h3 h4 hv h5
    rw [List.map_cons, List.nodup_cons] at hnd
    have := moves_ok hn hR hv hp (hs.move v (e := (b, k, x)) h1) hnd.2 (fun e hel => by
      obtain ⟨g1, g2, g3, g4, g5⟩ := he e (by simp [hel])
      refine ⟨g1, g2, g3, g4, ?_⟩
      rw [hst, step_other (fun ek => hnd.1 (List.mem_map.2 ⟨e, hel, ek⟩))]
      exact g5) hr2
    refine ⟨this.1, fun c => ?_⟩
    have h6 := this.2 c
    rw [hst, col_step (by omega) h4] at h6
    show colOf p (amt (movesR v (moveR v rws (b, k, x)) l)) c = _
    omega
theorem stC_len {fs am lk : Value} {tk gv : List Int} (h1 : tk.length = 64) (h2 : gv.length = 65) : (stC fs am lk tk gv).length = 132 := by simp [stC, h1, h2]
set_option maxHeartbeats 8000000 in
set_option maxRecDepth 20000 in
theorem move_fn (M : Mem) (o : Loc) (ho1 : o.cm ≤ 9223372036854775807) (rws : List (Nat × List Int)) (lack tk gv : List Int) (hn : rws.length ≤ 64) (R : Nat) (hR : R ≤ 64) (bs : List Nat) (hsh : Shape rws.length R bs rws) (hI : ∀ x ∈ rws, ∀ v ∈ x.2, 0 ≤ v ∧ v ≤ 1048576) (ltk : tk.length = 64) (lgv : gv.length = 65) (a to : Nat) (ha : gv.getD a 0 = -2) (ha64 : a ≤ 64)
    (P : List (Nat × Nat × Nat)) (hP : Path tk gv a to P) (hnd : (P.map (·.2.1)).Nodup) (hE : ∀ e ∈ P, e.1 ≤ R ∧ e.2.1 < rws.length ∧ e.2.2 ≤ R ∧ e.2.2 ≠ e.1) (n : Int) (hn0 : 0 ≤ n) (hn1 : n ≤ 1048576) :
    Bf.Fn Try.prog 46 [.pointer (some ⟨o.sb, 0, none⟩), .int .i64 (to : Int), .int .i64 n] M (stL o (R + 1) rws lack tk gv)
      (fun r M' A' => r = .int .i64 (minL rws n P) ∧ M = M' ∧ A' = stL o (R + 1) (movesR (minL rws n P) rws P) lack tk gv) := by
  have hamt : ∀ k b, k < rws.length → b ≤ R → 0 ≤ amt rws k b ∧ amt rws k b ≤ 1048576 := fun k b hk hb => by
    obtain ⟨⟨bk, row⟩, hr⟩ := get_of_lt hk
    have hl := hsh.row _ (List.mem_of_getElem? hr)
    simp only at hl
    rw [amt_of hr]
    obtain ⟨v, hv⟩ := get_of_lt (xs := row) (i := b) (by omega)
    rw [getD_of hv]
    exact hI _ (List.mem_of_getElem? hr) v (List.mem_of_getElem? hv)
  have hb64 : ∀ b l, Path tk gv a b l → (∀ e ∈ l, e.1 ≤ R ∧ e.2.1 < rws.length ∧ e.2.2 ≤ R ∧ e.2.2 ≠ e.1) → b ≤ 64 := fun b l h he => by
    cases h with
    | nil => exact ha64
    | cons hg hk h => exact Nat.le_trans (he _ (List.mem_cons_self ..)).1 hR
  refine Fn.intro Try.func46 rfl rfl Try.ntmps46 rfl fun E F => ?_
  simp only [stL, List.cons_append, List.nil_append]
  have hlen := stC_len (fs := o.fs) (am := .slice o.Am rws.length o.cm) (lk := .slice o.Al lack.length o.cl) ltk lgv
  repeat (first | ((with_reducible refine Tr.step rfl ?_); (first | ((with_reducible refine Knd.move ?_); (refine Exec.stab rfl (Stab.move rfl) rfl ?_)) | ((with_reducible refine Knd.assign ?_); (refine Exec.stab rfl (Stab.assign rfl) rfl ?_)))) | (with_reducible refine Tr.next ?_) | (with_reducible refine Tr.seq ?_) | (with_reducible refine Tr.region ?_) | (with_reducible refine Tr.nil ?_) | (with_reducible refine Tr.block ?_))
  refine Tr.loop (α := Nat × List (Nat × Nat × Nat) × Int) (fun y => ⟨90, [(7, .int .i64 (y.1 : Int)), (2, .int .i64 y.2.2), (0, .pointer (some ⟨o.sb, 0, none⟩)), (1, .int .i64 (to : Int))], [], M, box o.sb 56 (stC o.fs (.slice o.Am rws.length o.cm) (.slice o.Al lack.length o.cl) tk gv) :: ownS 23 1 o.Am rws.length o.cm (ptrV (R + 1) rws) :: rowsR rws :: ownS 3 1 o.Al lack.length o.cl (intV lack) :: F⟩)
    (fun y => Path tk gv a y.1 y.2.1 ∧ ∃ pre, P = pre ++ y.2.1 ∧ y.2.2 = minL rws n pre) (fun y => y.2.1.length) (to, P, n) ⟨hP, [], rfl, rfl⟩ (holds_sub (by repeat (first | exact SubFr.nil | refine SubFr.cons rfl ?_)) (by repeat (first | exact DropL.refl | apply DropL.skip))) (fun y hy => ?_)
  obtain ⟨b, l, m⟩ := y
  obtain ⟨hp, pre, hpre, hm⟩ := hy
  simp only at hp hpre hm
  dsimp only
  have hEl : ∀ e ∈ l, e.1 ≤ R ∧ e.2.1 < rws.length ∧ e.2.2 ≤ R ∧ e.2.2 ≠ e.1 := fun e he => hE e (by rw [hpre]; simp [he])
  have hb := hb64 b l hp hEl
  have hgv := stC_gvAt (fs := o.fs) (am := .slice o.Am rws.length o.cm) (lk := .slice o.Al lack.length o.cl) (k := b) ltk (show b < gv.length by omega)
  rcases hp with _ | @⟨_, k, x, l, hg, hk, hp⟩
  rotate_left
  · obtain ⟨hb1, hk1, hx1, hne1⟩ := hEl (b, k, x) (by simp)
    simp only at hb1 hk1 hx1 hne1
    rw [hg] at hgv
    have htk := stC_tkAt (fs := o.fs) (am := .slice o.Am rws.length o.cm) (lk := .slice o.Al lack.length o.cl) (gv := gv) (k := k) (show k < tk.length by omega)
    rw [hk] at htk
    obtain ⟨⟨bk, row⟩, hrk⟩ := get_of_lt hk1
    have hrl : row.length = R + 1 := hsh.row _ (List.mem_of_getElem? hrk)
    obtain ⟨v, hv⟩ := get_of_lt (xs := row) (i := x) (by omega)
    have hv' : nthL (intV row) x = some (.int .i64 v) := by rw [nthL_eq]; exact intV_get hv
    have hp' : (ptrV (R + 1) rws)[k]? = some (.slice (some ⟨bk, 0, none⟩) (R + 1) (R + 1)) := by simp [ptrV, hrk]
    have hamv : amt rws k x = v := by rw [amt_of hrk, getD_of hv]
    refine Tr.own_some o.Am (by repeat (first | exact Has.here | apply Has.there)) (by omega) (fun hAm => ?_)
    have hne : ¬ (k : Int) = -2 := by omega
    unfold rowsR
    refine Tr.many_out (by repeat (first | exact Del.here | apply Del.there)) (rows_get hrk) ?_
    repeat (first | ((with_reducible refine Tr.step rfl ?_); (first | ((with_reducible refine Knd.move ?_); (refine Exec.stab rfl (Stab.move rfl) rfl ?_)) | ((with_reducible refine Knd.assign ?_); (refine Exec.stab rfl (Stab.assign rfl) rfl ?_)) | ((with_reducible refine Knd.load ?_); (first | (refine Exec.stab rfl (Stab.load rfl (tysOk.get rfl) rfl (by repeat (first | exact Has.here | apply Has.there)) rfl) rfl ?_) | (refine Exec.stab rfl (Stab.load rfl (tysOk.get rfl) rfl (by repeat (first | exact Has.here | apply Has.there)) (by assumption)) rfl ?_) | (refine Exec.stab rfl (Stab.loadO rfl (tysOk.get rfl) rfl (by repeat (first | exact Has.here | apply Has.there)) (by assumption)) rfl ?_))) | ((with_reducible refine Knd.fieldAddr ?_); ((refine Exec.stab rfl (Stab.fieldZ rfl (tysOk.get rfl) rfl rfl (tysOk.get rfl) rfl) rfl ?_))) | ((with_reducible refine Knd.nilCheck ?_); (refine Exec.stab rfl (Stab.nilCheck rfl) rfl ?_)) | ((with_reducible refine Knd.min ?_); (refine Exec.stab rfl (Stab.min2 rfl rfl) rfl ?_)) | ((with_reducible refine Knd.binOp ?_); ((refine Exec.stab rfl (Stab.int rfl rfl rfl) rfl ?_))) | ((with_reducible refine Knd.indexAddr ?_); (first | (refine Exec.stab rfl (Stab.indexB0 rfl rfl (tysOk.get rfl) rfl (tysOk.get rfl) rfl (by omega) (by omega)) rfl ?_) | (refine Exec.stab rfl (Stab.indexAddr rfl rfl (tysOk.get rfl) rfl (tysOk.get rfl) rfl (by omega) (by omega) (by first | rfl | assumption)) rfl ?_) | (refine Exec.stab rfl (Stab.indexArrB rfl rfl (tysOk.get rfl) rfl (tysOk.get rfl) rfl (by omega) (by omega)) rfl ?_))))) | (with_reducible refine Tr.next ?_) | (with_reducible refine Tr.seq ?_) | (with_reducible refine Tr.region ?_) | (with_reducible refine Tr.nil ?_) | (with_reducible refine Tr.skip ?_) | (with_reducible refine Tr.block ?_) | (with_reducible refine Tr.in_normal ?_) | (refine Tr.cond_t rfl (by first | (with_reducible assumption) | (with_reducible rfl) | (with_reducible exact (not_not_intro rfl)) | omega) ?_))
    refine Tr.many_in (rows_get hrk) ?_
    rw [rows_set, set_same hrk]
    refine Tr.front (x := ownS 23 1 _ _ _ _) (by repeat (first | exact Del.here | apply Del.there)) ?_
    refine Tr.front (x := box o.sb 56 _) (by repeat (first | exact Del.here | apply Del.there)) ?_
    refine Tr.again (x, l, min m v) ⟨hp, pre ++ [(b, k, x)], by simp [hpre], by rw [minL_app, hm, hamv]⟩ (by simp) (holds_sub (by repeat (first | exact SubFr.nil | refine SubFr.cons rfl ?_)) (by repeat (first | exact DropL.refl | apply DropL.skip)))
  rw [ha] at hgv
  rw [List.append_nil] at hpre
  subst hpre
  clear hEl hb
  have hm0 : 0 ≤ m := by
    rw [hm]
    exact minL_pos rws P n hn0 fun e he => by
      obtain ⟨_, h2, h3, _⟩ := hE e he
      exact (hamt _ _ h2 h3).1
  have hm1 : m ≤ n := by rw [hm]; exact (minL_le rws P n).1
  have hmP : ∀ e ∈ P, m ≤ amt rws e.2.1 e.2.2 := by rw [hm]; exact (minL_le rws P n).2
  repeat (first | ((with_reducible refine Tr.step rfl ?_); (first | ((with_reducible refine Knd.move ?_); (refine Exec.stab rfl (Stab.move rfl) rfl ?_)) | ((with_reducible refine Knd.assign ?_); (refine Exec.stab rfl (Stab.assign rfl) rfl ?_)) | ((with_reducible refine Knd.load ?_); ((refine Exec.stab rfl (Stab.load rfl (tysOk.get rfl) rfl (by repeat (first | exact Has.here | apply Has.there)) (by assumption)) rfl ?_))) | ((with_reducible refine Knd.fieldAddr ?_); ((refine Exec.stab rfl (Stab.fieldZ rfl (tysOk.get rfl) rfl rfl (tysOk.get rfl) rfl) rfl ?_))) | ((with_reducible refine Knd.nilCheck ?_); (refine Exec.stab rfl (Stab.nilCheck rfl) rfl ?_)) | ((with_reducible refine Knd.binOp ?_); ((refine Exec.stab rfl (Stab.int rfl rfl rfl) rfl ?_))) | ((with_reducible refine Knd.indexAddr ?_); ((refine Exec.stab rfl (Stab.indexArrB rfl rfl (tysOk.get rfl) rfl (tysOk.get rfl) rfl (by omega) (by omega)) rfl ?_))))) | (with_reducible refine Tr.next ?_) | (with_reducible refine Tr.seq ?_) | (with_reducible refine Tr.region ?_) | (with_reducible refine Tr.nil ?_) | (with_reducible refine Tr.block ?_) | (with_reducible refine Tr.exit ?_) | (with_reducible refine Tr.then_exit ?_) | ((with_reducible refine Tr.in_exit ?_ ?_); (exact rfl)) | (refine Tr.cond_f rfl (by first | (with_reducible assumption) | (with_reducible rfl) | (with_reducible exact (not_not_intro rfl)) | omega) ?_))
  refine Tr.loop (α := Nat × List (Nat × Nat × Nat) × List (Nat × List Int)) (fun y => ⟨90, [(9, .int .i64 (y.1 : Int)), (2, .int .i64 m), (0, .pointer (some ⟨o.sb, 0, none⟩))], [], M, box o.sb 56 (stC o.fs (.slice o.Am rws.length o.cm) (.slice o.Al lack.length o.cl) tk gv) :: ownS 23 1 o.Am rws.length o.cm (ptrV (R + 1) rws) :: rowsR y.2.2 :: ownS 3 1 o.Al lack.length o.cl (intV lack) :: F⟩)
    (fun y => Path tk gv a y.1 y.2.1 ∧ Shape rws.length R bs y.2.2 ∧ (∀ k ∈ y.2.1.map (·.2.1), y.2.2[k]? = rws[k]?) ∧ ∃ pre, P = pre ++ y.2.1 ∧ y.2.2 = movesR m rws pre) (fun y => y.2.1.length) (to, P, rws) ⟨hP, hsh, fun _ _ => rfl, [], rfl, rfl⟩ (holds_sub (by repeat (first | exact SubFr.nil | refine SubFr.cons rfl ?_)) (by repeat (first | exact DropL.refl | apply DropL.skip))) (fun y hy => ?_)
  obtain ⟨b, l, rw2⟩ := y
  obtain ⟨hp, hs2, hsame, pre, hpre, hmv⟩ := hy
  simp only at hp hs2 hsame hpre hmv
  dsimp only
  have hEl : ∀ e ∈ l, e.1 ≤ R ∧ e.2.1 < rws.length ∧ e.2.2 ≤ R ∧ e.2.2 ≠ e.1 := fun e he => hE e (by rw [hpre]; simp [he])
  have hb := hb64 b l hp hEl
  have hptr : ptrV (R + 1) rw2 = ptrV (R + 1) rws := by
    have : ∀ r : List (Nat × List Int), ptrV (R + 1) r = (r.map (·.1)).map fun x => .slice (some ⟨x, 0, none⟩) (R + 1) (R + 1) := fun r => by simp [ptrV]
    rw [this, this, hs2.bs, hsh.bs]
  have hgv := stC_gvAt (fs := o.fs) (am := .slice o.Am rws.length o.cm) (lk := .slice o.Al lack.length o.cl) (k := b) ltk (show b < gv.length by omega)
  rcases hp with _ | @⟨_, k, x, l, hg, hk, hp⟩
  · rw [ha] at hgv
    rw [List.append_nil] at hpre
    subst hpre
    subst hmv
    repeat (first | ((with_reducible refine Tr.step rfl ?_); (first | ((with_reducible refine Knd.move ?_); (refine Exec.stab rfl (Stab.move rfl) rfl ?_)) | ((with_reducible refine Knd.assign ?_); (refine Exec.stab rfl (Stab.assign rfl) rfl ?_)) | ((with_reducible refine Knd.load ?_); ((refine Exec.stab rfl (Stab.load rfl (tysOk.get rfl) rfl (by repeat (first | exact Has.here | apply Has.there)) (by assumption)) rfl ?_))) | ((with_reducible refine Knd.fieldAddr ?_); ((refine Exec.stab rfl (Stab.fieldZ rfl (tysOk.get rfl) rfl rfl (tysOk.get rfl) rfl) rfl ?_))) | ((with_reducible refine Knd.nilCheck ?_); (refine Exec.stab rfl (Stab.nilCheck rfl) rfl ?_)) | ((with_reducible refine Knd.binOp ?_); ((refine Exec.stab rfl (Stab.int rfl rfl rfl) rfl ?_))) | ((with_reducible refine Knd.indexAddr ?_); ((refine Exec.stab rfl (Stab.indexArrB rfl rfl (tysOk.get rfl) rfl (tysOk.get rfl) rfl (by omega) (by omega)) rfl ?_))))) | (with_reducible refine Tr.next ?_) | (with_reducible refine Tr.seq ?_) | (with_reducible refine Tr.region ?_) | (with_reducible refine Tr.nil ?_) | (with_reducible refine Tr.exit ?_) | (with_reducible refine Tr.ret ?_) | (with_reducible refine Tr.then_exit ?_) | ((with_reducible refine Tr.in_exit ?_ ?_); (exact rfl)) | (refine Tr.cond_f rfl (by first | (with_reducible assumption) | (with_reducible rfl) | (with_reducible exact (not_not_intro rfl)) | omega) ?_))
    have hsz : (movesR m rws P).length = rws.length := hs2.n
    refine Tr.doneA (A' := stL o (R + 1) (movesR m rws P) lack tk gv) (by first | exact .inl rfl | exact .inr rfl) rfl (by repeat (first | exact RVs.nil | (apply RVs.cons; (exact RV.tmp rfl)))) (Mem.le.refl _) ⟨fun r hr => by simpa [stL, hptr, hsz] using hr, fun h => by simpa [stL, hptr, hsz] using h⟩ ⟨by rw [hm]; rfl, rfl, by rw [hm]; rfl⟩
  obtain ⟨hb1, hk1, hx1, hne1⟩ := hEl (b, k, x) (by simp)
  simp only at hb1 hk1 hx1 hne1
  rw [hg] at hgv
  have htk := stC_tkAt (fs := o.fs) (am := .slice o.Am rws.length o.cm) (lk := .slice o.Al lack.length o.cl) (gv := gv) (k := k) (show k < tk.length by omega)
  rw [hk] at htk
  obtain ⟨⟨bk, row⟩, hrk0⟩ := get_of_lt hk1
  have hrk : rw2[k]? = some (bk, row) := by rw [hsame k (by simp)]; exact hrk0
  have hrl : row.length = R + 1 := hs2.row _ (List.mem_of_getElem? hrk)
  obtain ⟨vb, hvb⟩ := get_of_lt (xs := row) (i := b) (by omega)
  have hvb' : nthL (intV row) b = some (.int .i64 vb) := by rw [nthL_eq]; exact intV_get hvb
  obtain ⟨vx, hvx⟩ := get_of_lt (xs := row) (i := x) (by omega)
  have hvx' : nthL (intV (row.set b (vb + m))) x = some (.int .i64 vx) := by rw [nthL_eq]; exact intV_get (by rw [List.getElem?_set_ne (Ne.symm hne1)]; exact hvx)
  have hp' : (ptrV (R + 1) rws)[k]? = some (.slice (some ⟨bk, 0, none⟩) (R + 1) (R + 1)) := by simp [ptrV, hrk0]
  have hil : (intV row).length = R + 1 := by simp [hrl]
  have hil2 : (intV (row.set b (vb + m))).length = R + 1 := by simp [hrl]
  have ib := hamt k b hk1 hb1
  have ix := hamt k x hk1 hx1
  rw [amt_of hrk0, getD_of hvb] at ib
  rw [amt_of hrk0, getD_of hvx] at ix
  have hmx := hmP (b, k, x) (by rw [hpre]; simp)
  simp only at hmx
  rw [amt_of hrk0, getD_of hvx] at hmx
  refine Tr.own_some o.Am (by repeat (first | exact Has.here | apply Has.there)) (by omega) (fun hAm => ?_)
  have hne : ¬ (k : Int) = -2 := by omega
  unfold rowsR
  refine Tr.many_out (by repeat (first | exact Del.here | apply Del.there)) (rows_get hrk) ?_
  repeat (first | ((with_reducible refine Tr.step rfl ?_); (first | ((with_reducible refine Knd.move ?_); (refine Exec.stab rfl (Stab.move rfl) rfl ?_)) | ((with_reducible refine Knd.assign ?_); (refine Exec.stab rfl (Stab.assign rfl) rfl ?_)) | ((with_reducible refine Knd.load ?_); (first | (refine Exec.stab rfl (Stab.load rfl (tysOk.get rfl) rfl (by repeat (first | exact Has.here | apply Has.there)) rfl) rfl ?_) | (refine Exec.stab rfl (Stab.load rfl (tysOk.get rfl) rfl (by repeat (first | exact Has.here | apply Has.there)) (by assumption)) rfl ?_) | (refine Exec.stab rfl (Stab.loadO rfl (tysOk.get rfl) rfl (by repeat (first | exact Has.here | apply Has.there)) (by assumption)) rfl ?_))) | ((with_reducible refine Knd.fieldAddr ?_); ((refine Exec.stab rfl (Stab.fieldZ rfl (tysOk.get rfl) rfl rfl (tysOk.get rfl) rfl) rfl ?_))) | ((with_reducible refine Knd.nilCheck ?_); (refine Exec.stab rfl (Stab.nilCheck rfl) rfl ?_)) | ((with_reducible refine Knd.binOp ?_); (first | (refine Exec.stab rfl (Stab.addi rfl rfl (by omega)) rfl ?_) | (refine Exec.stab rfl (Stab.int rfl rfl rfl) rfl ?_))) | ((with_reducible refine Knd.store ?_); ((refine Exec.storeS rfl rfl (tysOk.get rfl) rfl (by first | rfl | assumption) (by repeat (first | exact Upd.here | apply Upd.there)) (by omega) ?_))) | ((with_reducible refine Knd.indexAddr ?_); (first | (refine Exec.stab rfl (Stab.indexB0 rfl rfl (tysOk.get rfl) rfl (tysOk.get rfl) rfl (by omega) (by omega)) rfl ?_) | (refine Exec.stab rfl (Stab.indexAddr rfl rfl (tysOk.get rfl) rfl (tysOk.get rfl) rfl (by omega) (by omega) (by first | rfl | assumption)) rfl ?_) | (refine Exec.stab rfl (Stab.indexArrB rfl rfl (tysOk.get rfl) rfl (tysOk.get rfl) rfl (by omega) (by omega)) rfl ?_))))) | (with_reducible refine Tr.next ?_) | (with_reducible refine Tr.seq ?_) | (with_reducible refine Tr.region ?_) | (with_reducible refine Tr.nil ?_) | (with_reducible refine Tr.skip ?_) | (with_reducible refine Tr.block ?_) | (refine Tr.cond_t rfl (by first | (with_reducible assumption) | (with_reducible rfl) | (with_reducible exact (not_not_intro rfl)) | omega) ?_))
  refine Tr.cells (cs' := intV (row.set b (vb + m))) (by repeat (first | exact Upd.here | apply Upd.there)) (intV_set _ _ _) ?_
  repeat (first | ((with_reducible refine Tr.step rfl ?_); (first | ((with_reducible refine Knd.move ?_); (refine Exec.stab rfl (Stab.move rfl) rfl ?_)) | ((with_reducible refine Knd.load ?_); ((refine Exec.stab rfl (Stab.load rfl (tysOk.get rfl) rfl (by repeat (first | exact Has.here | apply Has.there)) (by assumption)) rfl ?_))) | ((with_reducible refine Knd.binOp ?_); ((refine Exec.stab rfl (Stab.subi rfl rfl (by omega)) rfl ?_))) | ((with_reducible refine Knd.store ?_); ((refine Exec.storeS rfl rfl (tysOk.get rfl) rfl (by first | rfl | assumption) (by repeat (first | exact Upd.here | apply Upd.there)) (by omega) ?_))) | ((with_reducible refine Knd.indexAddr ?_); ((refine Exec.stab rfl (Stab.indexB0 rfl rfl (tysOk.get rfl) rfl (tysOk.get rfl) rfl (by omega) (by omega)) rfl ?_))))) | (with_reducible refine Tr.next ?_) | (with_reducible refine Tr.nil ?_) | (with_reducible refine Tr.in_normal ?_))
  refine Tr.cells (cs' := intV ((row.set b (vb + m)).set x (vx - m))) (by repeat (first | exact Upd.here | apply Upd.there)) (intV_set _ _ _) ?_
  repeat (fail)
  refine Tr.front (x := many _) (by repeat (first | exact Del.here | apply Del.there)) ?_
  refine Tr.front (x := box bk 3 _) (by repeat (first | exact Del.here | apply Del.there)) ?_
  refine Tr.many_in (rows_get hrk) ?_
  rw [rows_set]
  refine Tr.front (x := ownS 23 1 _ _ _ _) (by repeat (first | exact Del.here | apply Del.there)) ?_
  refine Tr.front (x := box o.sb 56 _) (by repeat (first | exact Del.here | apply Del.there)) ?_
  have hmo : moveR m rw2 (b, k, x) = rw2.set k (bk, (row.set b (vb + m)).set x (vx - m)) := by rw [moveR_of hrk, getD_of hvb, getD_of hvx]
  rw [← hmo]
  have hndl : ((b, k, x) :: l).map (·.2.1) |>.Nodup := by
    rw [hpre, List.map_append] at hnd
    exact (List.nodup_append.1 hnd).2.1
  rw [List.map_cons, List.nodup_cons] at hndl
  refine Tr.again (x, l, moveR m rw2 (b, k, x)) ⟨hp, hs2.move m (e := (b, k, x)) hk1, fun k' hk' => ?_, pre ++ [(b, k, x)], by simp [hpre], by rw [movesR_app, hmv]⟩ (by simp) (holds_sub (by repeat (first | exact SubFr.nil | refine SubFr.cons rfl ?_)) (by repeat (first | exact DropL.refl | apply DropL.skip)))
  rw [moveR_other (e := (b, k, x)) (fun e => hndl.1 (e ▸ hk'))]
  exact hsame k' (List.mem_cons_of_mem _ hk')
end Go.Proofs.Ytmioocddmlfboaa
