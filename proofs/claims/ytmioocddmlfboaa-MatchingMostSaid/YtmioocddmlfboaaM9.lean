/-
  Matching: what a search keeps (plain): the tree of what is reached, and how it grows.
  Conditions: none.
-/
import Derived.Test.YtmioocddmlfboaaM8
namespace Go.Proofs.Ytmioocddmlfboaa
open Go Bf
attribute [local irreducible] Tr Exec Stab HasTy Go.Addr.add IntKind.wrap
/-- what the supply k gives to b -/
def amt (rws : List (Nat × List Int)) (k b : Nat) : Int := (rws.map (·.2)).getD k [] |>.getD b 0
/-- the tree of a search from a, by supplies from r1 on: what is reached, in order -/
structure Core (rws : List (Nat × List Int)) (fits : List (List Bool)) (R r1 a : Nat) (tk gv : List Int) (ord : List Nat) : Prop where
  ltk : tk.length = 64
  lgv : gv.length = 65
  nd : ord.Nodup
  le : ∀ b ∈ ord, b ≤ R
  mem : ∀ b, b ≤ R → (gv.getD b 0 ≠ -1 ↔ b ∈ ord)
  hd : ord[0]? = some a ∧ gv.getD a 0 = -2
  tkn : ∀ k, k < rws.length → -1 ≤ tk.getD k 0
  tree : ∀ i b, ord[i]? = some b → 0 < i → ∃ j x k : Nat, j < i ∧ ord[j]? = some x ∧ k < rws.length ∧ r1 ≤ k ∧ gv.getD b 0 = (k : Int) ∧ tk.getD k 0 = (x : Int) ∧ amt rws k x ≠ 0 ∧ srvB fits R k b = true
theorem getD_set_self' {l : List Int} {i : Nat} {v d : Int} (h : i < l.length) : (l.set i v).getD i d = v := by
  rw [List.getD_eq_getElem?_getD, List.getElem?_set_self h]; rfl
theorem getD_set_ne' {l : List Int} {i j : Nat} {v d : Int} (h : i ≠ j) : (l.set i v).getD j d = l.getD j d := by
  rw [List.getD_eq_getElem?_getD, List.getElem?_set_ne h, ← List.getD_eq_getElem?_getD]
/-- at the beginning -/
theorem Core.start {rws : List (Nat × List Int)} {fits : List (List Bool)} {R r1 a : Nat} {tk gv : List Int} (h1 : tk.length = 64) (h2 : gv.length = 65) (h3 : ∀ k, k < 64 → tk.getD k 0 = -1) (h4 : ∀ b, b < 65 → gv.getD b 0 = -1) (hR : R ≤ 64) (ha : a ≤ R) (hn : rws.length ≤ 64) :
    Core rws fits R r1 a tk (gv.set a (-2)) [a] := by
  refine ⟨h1, by simpa using h2, by simp, by simpa using ha, fun b hb => ?_, ⟨rfl, getD_set_self' (by omega)⟩, fun k hk => by rw [h3 k (by omega)]; decide, fun i b hi h0 => ?_⟩
  · by_cases e : a = b
    · subst e
      rw [getD_set_self' (by omega)]
      simp
    · rw [getD_set_ne' e, h4 b (by omega)]
      simp [Ne.symm e]
  · have := (List.getElem?_eq_some_iff.1 hi).1
    simp at this
    omega
/-- a supply is reached -/
theorem Core.take {rws : List (Nat × List Int)} {fits : List (List Bool)} {R r1 a : Nat} {tk gv : List Int} {ord : List Nat} (h : Core rws fits R r1 a tk gv ord) {k x : Nat} (hk : k < rws.length) (hn : rws.length ≤ 64) (h0 : tk.getD k 0 = -1) : Core rws fits R r1 a (tk.set k (x : Int)) gv ord := by
  refine ⟨by simpa using h.ltk, h.lgv, h.nd, h.le, h.mem, h.hd, fun k' hk' => ?_, fun i b hi hp => ?_⟩
  · by_cases e : k = k'
    · subst e
      rw [getD_set_self' (by have := h.ltk; omega)]; omega
    · rw [getD_set_ne' e]; exact h.tkn k' hk'
  · obtain ⟨j, y, k', g1, g2, g3, g4, g5, g6, g7, g8⟩ := h.tree i b hi hp
    have hne : k ≠ k' := fun e => by
      subst e
      rw [h0] at g6
      omega
    exact ⟨j, y, k', g1, g2, g3, g4, g5, by rw [getD_set_ne' hne]; exact g6, g7, g8⟩
/-- a request is reached -/
theorem Core.give {rws : List (Nat × List Int)} {fits : List (List Bool)} {R r1 a : Nat} {tk gv : List Int} {ord : List Nat} (h : Core rws fits R r1 a tk gv ord) (hR : R ≤ 64) {k x b : Nat} (hk : k < rws.length) (hr : r1 ≤ k) (hb : b ≤ R) (h0 : gv.getD b 0 = -1) (hx : x ∈ ord) (htk : tk.getD k 0 = (x : Int)) (ha : amt rws k x ≠ 0) (hs : srvB fits R k b = true) :
    Core rws fits R r1 a tk (gv.set b (k : Int)) (ord ++ [b]) := by
  have hbn : b ∉ ord := fun hm => (h.mem b hb).2 hm h0
  have hgl := h.lgv
  refine ⟨h.ltk, by simpa using h.lgv, ?_, fun c hc => ?_, fun c hc => ?_, ⟨?_, ?_⟩, h.tkn, fun i c hi hp => ?_⟩
  · rw [List.nodup_append]
    exact ⟨h.nd, by simp, fun c hc d hd e => by simp at hd; subst hd; subst e; exact hbn hc⟩
  · rcases List.mem_append.1 hc with hc | hc
    · exact h.le c hc
    · simp at hc; rw [hc]; exact hb
  · by_cases e : b = c
    · subst e
      rw [getD_set_self' (by omega)]
      exact ⟨fun _ => by simp, fun _ => by omega⟩
    · rw [getD_set_ne' e, h.mem c hc]
      simp [Ne.symm e]
  · rw [List.getElem?_append_left]
    · exact h.hd.1
    · exact (List.getElem?_eq_some_iff.1 h.hd.1).1
  · have : b ≠ a := fun e => by
      subst e
      exact hbn (List.mem_of_getElem? h.hd.1)
    rw [getD_set_ne' this]; exact h.hd.2
  · by_cases hlt : i < ord.length
    · rw [List.getElem?_append_left hlt] at hi
      obtain ⟨j, y, k', g1, g2, g3, g4, g5, g6, g7, g8⟩ := h.tree i c hi hp
      have hne : b ≠ c := fun e => by
        subst e
        exact hbn (List.mem_of_getElem? hi)
      exact ⟨j, y, k', g1, by rw [List.getElem?_append_left (by omega)]; exact g2, g3, g4, by rw [getD_set_ne' hne]; exact g5, g6, g7, g8⟩
    · have hi2 := (List.getElem?_eq_some_iff.1 hi).1
      simp at hi2
      have e : i = ord.length := by omega
      subst e
      rw [List.getElem?_append_right (Nat.le_refl _), Nat.sub_self] at hi
      simp at hi
      subst hi
      obtain ⟨j, hj⟩ := List.mem_iff_getElem?.1 hx
      have hjl := (List.getElem?_eq_some_iff.1 hj).1
      exact ⟨j, x, k, hjl, by rw [List.getElem?_append_left hjl]; exact hj, hk, hr, getD_set_self' (by omega), htk, ha, hs⟩
theorem nodup_len : ∀ (N : Nat) (l : List Nat), l.Nodup → (∀ x ∈ l, x < N) → l.length ≤ N
  | 0, [], _, _ => Nat.le_refl _
  | 0, x :: l, _, h => by have := h x (by simp); omega
  | N + 1, l, hn, h => by
    have h1 := nodup_len N (l.erase N) (hn.erase N) (fun x hx => by
      have h2 := (hn.mem_erase_iff).1 hx
      have := h x h2.2
      omega)
    rw [List.length_erase] at h1
    split at h1 <;> omega
theorem Core.count {rws : List (Nat × List Int)} {fits : List (List Bool)} {R r1 a : Nat} {tk gv : List Int} {ord : List Nat} (h : Core rws fits R r1 a tk gv ord) : ord.length ≤ R + 1 := nodup_len (R + 1) ord h.nd fun b hb => by have := h.le b hb; omega
/-- the cells of a state, changed -/
theorem stC_tk {fs am lk : Value} {tk gv : List Int} {k : Nat} {v : Int} (hk : k < tk.length) : (stC fs am lk tk gv).set (3 + k) (.int .i64 v) = stC fs am lk (tk.set k v) gv := by
  unfold stC
  rw [show 3 + k = k + 1 + 1 + 1 by omega]
  simp only [List.set_cons_succ]
  rw [List.set_append_left _ _ (by simpa using hk), intV_set]
theorem stC_gv {fs am lk : Value} {tk gv : List Int} {k : Nat} {v : Int} (ht : tk.length = 64) : (stC fs am lk tk gv).set (67 + k) (.int .i64 v) = stC fs am lk tk (gv.set k v) := by
  unfold stC
  rw [show 67 + k = (64 + k) + 1 + 1 + 1 by omega]
  simp only [List.set_cons_succ]
  rw [List.set_append_right _ _ (by simp; omega)]
  simp only [intV_length, ht]
  rw [show 64 + k - 64 = k by omega, intV_set]
theorem stC_tkAt {fs am lk : Value} {tk gv : List Int} {k : Nat} (hk : k < tk.length) : nthL (stC fs am lk tk gv) (3 + k) = some (.int .i64 (tk.getD k 0)) := by
  rw [nthL_eq]
  unfold stC
  rw [show 3 + k = k + 1 + 1 + 1 by omega]
  simp only [List.getElem?_cons_succ]
  rw [List.getElem?_append_left (by simpa using hk), intV_get (x := tk.getD k 0)]
  rw [List.getD_eq_getElem?_getD]
  simp [hk]
theorem stC_gvAt {fs am lk : Value} {tk gv : List Int} {k : Nat} (ht : tk.length = 64) (hk : k < gv.length) : nthL (stC fs am lk tk gv) (67 + k) = some (.int .i64 (gv.getD k 0)) := by
  rw [nthL_eq]
  unfold stC
  rw [show 67 + k = (64 + k) + 1 + 1 + 1 by omega]
  simp only [List.getElem?_cons_succ]
  rw [List.getElem?_append_right (by simp; omega)]
  simp only [intV_length, ht]
  rw [show 64 + k - 64 = k by omega, intV_get (x := gv.getD k 0)]
  rw [List.getD_eq_getElem?_getD]
  simp [hk]
end Go.Proofs.Ytmioocddmlfboaa
