/-
 What a law's arguments read as, in memory that the walk leaves alone.
 Conditions: none; plain laws over any program.
-/
import Derived.Test.YtlifjajcmnkhfaaGreatUBfRepB
import Derived.Carry
import Derived.ChangeSame
import Derived.Below
namespace Bf
open Go


theorem mapM_some {α β : Type} {f : α → Option β} : ∀ {l : List α} {r : List β}, l.mapM f = some r → r.length = l.length ∧ ∀ (i : Nat) (x : α), l[i]? = some x → ∃ y, f x = some y ∧ r[i]? = some y
 | [], r, h => by
  simp only [List.mapM_nil] at h
  cases h
  exact ⟨rfl, fun i x hx => by simp at hx⟩
 | a :: l, r, h => by
  rw [List.mapM_cons] at h
  cases hf : f a with
  | none => rw [hf] at h; cases h
  | some b =>
   cases hl : l.mapM f with
   | none => rw [hf, hl] at h; cases h
   | some s =>
    rw [hf, hl] at h
    cases h
    obtain ⟨h1, h2⟩ := mapM_some hl
    refine ⟨by simp [h1], fun i x hx => ?_⟩
    cases i with
    | zero => simp at hx; subst hx; exact ⟨b, hf, rfl⟩
    | succ i => exact h2 i x (by simpa using hx)
theorem cell_inv {w : World} {a : Addr} {v : Value} (h : w.cell? a = some v) : a.spot = none ∧ ∃ all t fz, hp w a.block = some (.cells all t fz) ∧ all[a.off]? = some v := by
 unfold World.cell? at h
 split at h
 ·rename_i c t fz hc
  split at h
  ·cases h
  ·rename_i hs
   exact ⟨by simpa using hs, c, t, fz, hc, h⟩
 ·cases h
theorem add_off (a : Addr) (k : Nat) : (a.add k).block = a.block ∧ (a.add k).off = a.off + k := by
 unfold Addr.add
 split
 ·rename_i h; subst h; exact ⟨rfl, rfl⟩
 ·exact ⟨rfl, rfl⟩
theorem cells_inv {w : World} {a : Addr} {n : Nat} {cs : List Value} (hn : 0 < n) (h : w.cells? 0 a n = some cs) :
  cs.length = n ∧ a.spot = none ∧ ∃ all t fz, hp w a.block = some (.cells all t fz) ∧ ∀ (j : Nat) u, cs[j]? = some u → all[a.off + j]? = some u := by
 unfold World.cells? at h
 rw [if_pos (Nat.zero_le _)] at h
 obtain ⟨h1, h2⟩ := mapM_some h
 simp only [List.length_range] at h1
 obtain ⟨y, hy, _⟩ := h2 0 0 (by simp [hn])
 obtain ⟨hs, all, t, fz, hb, _⟩ := cell_inv hy
 have e0 : a.add 0 = a := by unfold Addr.add; simp
 rw [e0] at hs hb
 refine ⟨h1, hs, all, t, fz, hb, fun j u hu => ?_⟩
 have hj : j < n := by rw [← h1]; exact (List.getElem?_eq_some_iff.1 hu).1
 obtain ⟨z, hz, hz2⟩ := h2 j j (by simp [hj])
 rw [hu] at hz2
 cases hz2
 obtain ⟨_, all', t', fz', hb', hc'⟩ := cell_inv hz
 rw [(add_off a j).1, hb] at hb'
 cases hb'
 rw [(add_off a j).2] at hc'
 exact hc'

section
variable {H : Type} {enc : TypeId × Value → H} {P : Program} {w : World} {sp : Nat → Bool} {held : Bool}

theorem read_slice' {fuel : Nat} {t e : TypeId} {v : Value} {x : DataW H × List MemPlace} (hu : P.underlying t = some (.slice e)) (h : DataW.trod enc P w 0 sp held fuel t [v] = some x) :
  v = .slice none 0 0 ∨ ∃ a len cap f, f < fuel ∧ v = .slice (some a) len cap ∧ len ≤ cap ∧ cap ≤ maxLen ∧ ∀ i, i < len → ∃ cs y, w.cells? 0 (a.add (i * P.cellsOf e)) (P.cellsOf e) = some cs ∧ DataW.trod enc P w 0 sp held f e cs = some y := by
 cases fuel with
 | zero => cases h
 | succ f =>
  unfold DataW.trod at h
  rw [hu] at h
  split at h <;> first | (rename_i h0; cases h0; done) | skip
  all_goals first | (exfalso; simp_all; done) | skip
  ·rename_i h1 h2
   left
   cases h2
   rfl
  ·rename_i e' a len cap h1 h2
   right
   cases h1
   cases h2
   dsimp only at h
   split at h
   ·rename_i hc
    obtain ⟨_, hc2, hc3⟩ := hc
    refine ⟨a, len, cap, f, Nat.lt_succ_self f, rfl, hc2, hc3, fun i hi => ?_⟩
    cases hm : (List.range len).mapM fun i => (w.cells? 0 (a.add (i * P.cellsOf e)) (P.cellsOf e)).bind (DataW.trod enc P w 0 sp held f e) with
    | none => rw [hm] at h; cases h
    | some es =>
     obtain ⟨_, h4⟩ := mapM_some hm
     obtain ⟨y, hy, _⟩ := h4 i i (by simp [hi])
     cases hcs : w.cells? 0 (a.add (i * P.cellsOf e)) (P.cellsOf e) with
     | none => rw [hcs] at hy; cases hy
     | some cs => rw [hcs] at hy; exact ⟨cs, y, rfl, hy⟩
   ·cases h
theorem read_slice {fuel : Nat} {t e : TypeId} {v : Value} {x : DataW H × List MemPlace} (hu : P.underlying t = some (.slice e)) (h : DataW.trod enc P w 0 sp held fuel t [v] = some x) :
  v = .slice none 0 0 ∨ ∃ a len cap f, v = .slice (some a) len cap ∧ len ≤ cap ∧ cap ≤ maxLen ∧ ∀ i, i < len → ∃ cs y, w.cells? 0 (a.add (i * P.cellsOf e)) (P.cellsOf e) = some cs ∧ DataW.trod enc P w 0 sp held f e cs = some y :=
 (read_slice' hu h).imp id fun ⟨a, len, cap, f, _, r⟩ => ⟨a, len, cap, f, r⟩
end
end Bf
namespace Bf
open Go
section
variable {H : Type} {enc : TypeId × Value → H} {P : Program} {w : World} {sp : Nat → Bool} {held : Bool}

theorem pick_list {α : Type} {n : Nat} {Q : Nat → α → Prop} (h : ∀ i, i < n → ∃ x, Q i x) : ∃ xs : List α, xs.length = n ∧ ∀ (i : Nat) x, xs[i]? = some x → Q i x := by
 induction n with
 | zero => exact ⟨[], rfl, fun i x hx => by simp at hx⟩
 | succ n ih =>
  obtain ⟨xs, h1, h2⟩ := ih (fun i hi => h i (by omega))
  obtain ⟨y, hy⟩ := h n (by omega)
  refine ⟨xs ++ [y], by simp [h1], fun i x hx => ?_⟩
  by_cases hi : i < xs.length
  ·rw [List.getElem?_append_left hi] at hx
   exact h2 i x hx
  ·rw [List.getElem?_append_right (by omega)] at hx
   have : i - xs.length = 0 := by
    have := (List.getElem?_eq_some_iff.1 hx).1
    simp at this
    omega
   rw [this] at hx
   simp at hx
   subst hx
   have : i = n := by omega
   subst this
   exact hy

theorem read_slOf' {α : Type} {R : Mem → List Value → α → Prop} {fuel sz : Nat} {t e : TypeId} {v : Value} {x : DataW H × List MemPlace} (hu : P.underlying t = some (.slice e)) (hsz : P.cellsOf e = sz) (hpos : 0 < sz)
  (hR : ∀ f cs y, f < fuel → cs.length = sz → DataW.trod enc P w 0 sp held f e cs = some y → (∀ u ∈ cs, u.oneCell' = true) ∧ ∃ z, R (Bf.hp w) cs z)
  (h : DataW.trod enc P w 0 sp held fuel t [v] = some x) : ∃ (xs : List α) (A : Option Addr) (c : Nat), v = .slice A xs.length c ∧ SlOf sz R (Bf.hp w) (.slice A xs.length c) xs := by
 rcases read_slice' hu h with rfl | ⟨a, len, cap, f, hf, rfl, h1, h2, h3⟩
 ·exact ⟨[], none, 0, rfl, SlOf.nil _ _ _⟩
 subst hsz
 have h4 : ∀ i, i < len → ∃ cs, (cs.length = P.cellsOf e ∧ (a.add (i * P.cellsOf e)).spot = none ∧ ∃ all t fz, Bf.hp w (a.add (i * P.cellsOf e)).block = some (.cells all t fz) ∧ ∀ (j : Nat) u, cs[j]? = some u → all[(a.add (i * P.cellsOf e)).off + j]? = some u) ∧ (∀ u ∈ cs, u.oneCell' = true) ∧ ∃ z, R (Bf.hp w) cs z := fun i hi => by
  obtain ⟨cs, y, hc, hy⟩ := h3 i hi
  have hi := cells_inv hpos hc
  exact ⟨cs, hi, hR f cs y hf hi.1 hy⟩
 by_cases hl : len = 0
 ·subst hl
  exact ⟨[], some a, cap, rfl, _, _, [], rfl, Nat.zero_le _, h2, fun _ => rfl, Row.nil _ _ _, by simp⟩
 obtain ⟨cs0, ⟨k1, k2, all, t0, fz, k3, k4⟩, _⟩ := h4 0 (by omega)
 have e0 : a.add (0 * P.cellsOf e) = a := by rw [Nat.zero_mul]; unfold Addr.add; simp
 rw [e0] at k2 k3 k4
 have h5 : ∀ i, i < len → ∃ z, ∃ cs, cs.length = P.cellsOf e ∧ (∀ (j : Nat) u, cs[j]? = some u → all[a.off + i * P.cellsOf e + j]? = some u) ∧ (∀ u ∈ cs, u.oneCell' = true) ∧ R (Bf.hp w) cs z := fun i hi => by
  obtain ⟨cs, ⟨m1, m2, all', t', fz', m3, m4⟩, m5, z, m6⟩ := h4 i hi
  rw [(add_off a _).1, k3] at m3
  cases m3
  rw [(add_off a _).2] at m4
  exact ⟨z, cs, m1, m4, m5, m6⟩
 obtain ⟨xs, hx1, hx2⟩ := pick_list h5
 subst hx1
 let cells := (all.toList.drop a.off).take (xs.length * P.cellsOf e)
 have hget : ∀ j, j < xs.length * P.cellsOf e → cells[j]? = all[a.off + j]? := fun j hj => by
  show ((all.toList.drop a.off).take _)[j]? = _
  rw [List.getElem?_take, if_pos hj, List.getElem?_drop, Array.getElem?_toList]
 have hdec : ∀ i, i < xs.length → ∀ j, j < P.cellsOf e → i * P.cellsOf e + j < xs.length * P.cellsOf e := fun i hi j hj => by
  have : (i + 1) * P.cellsOf e ≤ xs.length * P.cellsOf e := Nat.mul_le_mul_right _ hi
  rw [Nat.add_mul, Nat.one_mul] at this
  omega
 have hsome : ∀ j, j < xs.length * P.cellsOf e → ∃ u, all[a.off + j]? = some u ∧ u.oneCell' = true := fun j hj => by
  have hi : j / P.cellsOf e < xs.length := by rw [Nat.div_lt_iff_lt_mul hpos]; exact hj
  obtain ⟨z, hz⟩ := get_of_lt hi
  obtain ⟨cs, n1, n2, n3, _⟩ := hx2 _ z hz
  have hm : j % P.cellsOf e < cs.length := by rw [n1]; exact Nat.mod_lt _ hpos
  have := n2 (j % P.cellsOf e) cs[j % P.cellsOf e] (by simp [hm])
  rw [Nat.add_assoc, Nat.div_add_mod'] at this
  exact ⟨_, this, n3 _ (List.getElem_mem hm)⟩
 have hlen : cells.length = xs.length * P.cellsOf e := by
  obtain ⟨u, hu, _⟩ := hsome (xs.length * P.cellsOf e - 1) (by have := Nat.mul_pos (Nat.pos_of_ne_zero hl) hpos; omega)
  have hlt := (Array.getElem?_eq_some_iff.1 hu).1
  have := Nat.mul_pos (Nat.pos_of_ne_zero hl) hpos
  show ((all.toList.drop a.off).take _).length = _
  have h9 : all.toList.length = all.size := by simp
  rw [List.length_take, List.length_drop, h9]
  omega
 have hat : At (Bf.hp w) a cells := ⟨k2, all, t0, fz, k3, fun j u hj => by
  have hlt := (List.getElem?_eq_some_iff.1 hj).1
  rw [← hget j (by omega)]; exact hj⟩
 refine ⟨xs, some a, cap, rfl, some a, cap, cells, rfl, h1, h2, fun h => (by cases h), ⟨hlen, fun u hu => ?_, fun _ => ⟨a, rfl, hat⟩⟩, fun i z hz => ?_⟩
 ·obtain ⟨j, hj⟩ := List.getElem?_of_mem hu
  have hlt := (List.getElem?_eq_some_iff.1 hj).1
  obtain ⟨u', hu', ho⟩ := hsome j (by omega)
  rw [hget j (by omega), hu'] at hj
  cases hj
  exact ho
 ·obtain ⟨cs, n1, n2, n3, n4⟩ := hx2 i z hz
  have hi := (List.getElem?_eq_some_iff.1 hz).1
  have : (cells.drop (i * P.cellsOf e)).take (P.cellsOf e) = cs := by
   apply List.ext_getElem?
   intro j
   by_cases hj : j < P.cellsOf e
   ·rw [List.getElem?_take, if_pos hj, List.getElem?_drop, hget _ (hdec i hi j hj), ← Nat.add_assoc]
    have hm : j < cs.length := by omega
    rw [n2 j cs[j] (by simp [hm])]
    simp [hm]
   ·rw [List.getElem?_take, if_neg hj, List.getElem?_eq_none (by omega)]
  rw [this]; exact n4

theorem read_slOf {α : Type} {R : Mem → List Value → α → Prop} {fuel sz : Nat} {t e : TypeId} {v : Value} {x : DataW H × List MemPlace} (hu : P.underlying t = some (.slice e)) (hsz : P.cellsOf e = sz) (hpos : 0 < sz)
  (hR : ∀ f cs y, cs.length = sz → DataW.trod enc P w 0 sp held f e cs = some y → (∀ u ∈ cs, u.oneCell' = true) ∧ ∃ z, R (Bf.hp w) cs z)
  (h : DataW.trod enc P w 0 sp held fuel t [v] = some x) : ∃ (xs : List α) (A : Option Addr) (c : Nat), v = .slice A xs.length c ∧ SlOf sz R (Bf.hp w) (.slice A xs.length c) xs :=
 read_slOf' hu hsz hpos (fun f cs y _ => hR f cs y) h
theorem read_int {fuel : Nat} {t : TypeId} {k : IntKind} {cs : List Value} {x : DataW H × List MemPlace} (hu : P.underlying t = some (.int k)) (h : DataW.trod enc P w 0 sp held fuel t cs = some x) : ∃ n, cs = [.int k n] ∧ (Lit.int k n).wf = true := by
 cases fuel with
 | zero => cases h
 | succ f =>
  unfold DataW.trod at h
  rw [hu] at h
  split at h <;> first | (rename_i h0; cases h0; done) | skip
  all_goals first | (exfalso; simp_all; done) | skip
  rename_i k1 k2 n h1
  cases h1
  split at h
  ·rename_i hc
   obtain ⟨rfl, hw⟩ := hc
   exact ⟨n, rfl, hw⟩
  ·cases h
theorem read_bool {fuel : Nat} {t : TypeId} {cs : List Value} {x : DataW H × List MemPlace} (hu : P.underlying t = some .bool) (h : DataW.trod enc P w 0 sp held fuel t cs = some x) : ∃ b, cs = [.bool b] := by
 cases fuel with
 | zero => cases h
 | succ f =>
  unfold DataW.trod at h
  rw [hu] at h
  split at h <;> first | (rename_i h0; cases h0; done) | skip
  all_goals first | (exfalso; simp_all; done) | skip
  exact ⟨_, rfl⟩
theorem read_struct' {fuel : Nat} {t : TypeId} {fs : Array Field} {cs : List Value} {x : DataW H × List MemPlace} (hu : P.underlying t = some (.struct fs)) (h : DataW.trod enc P w 0 sp held fuel t cs = some x) :
  cs.length = P.cellsOf t ∧ ∃ f, f < fuel ∧ ∀ (i : Nat) (fl : Field), fs[i]? = some fl → ∃ y, DataW.trod enc P w 0 sp held f fl.type ((cs.drop fl.offset).take (P.cellsOf fl.type)) = some y := by
 cases fuel with
 | zero => cases h
 | succ f =>
  unfold DataW.trod at h
  rw [hu] at h
  split at h <;> first | (rename_i h0; cases h0; done) | skip
  all_goals first | (exfalso; simp_all; done) | skip
  rename_i cs0 x0 cs1 fs1 h1
  cases h1
  split at h
  ·rename_i hc
   refine ⟨hc, f, Nat.lt_succ_self f, fun i fl hfl => ?_⟩
   cases hm : fs.toList.mapM fun fl => DataW.trod enc P w 0 sp held f fl.type ((cs0.drop fl.offset).take (P.cellsOf fl.type)) with
   | none => rw [hm] at h; cases h
   | some es =>
    obtain ⟨_, h4⟩ := mapM_some hm
    obtain ⟨y, hy, _⟩ := h4 i fl (by simpa using hfl)
    exact ⟨y, hy⟩
  ·cases h
theorem read_struct {fuel : Nat} {t : TypeId} {fs : Array Field} {cs : List Value} {x : DataW H × List MemPlace} (hu : P.underlying t = some (.struct fs)) (h : DataW.trod enc P w 0 sp held fuel t cs = some x) :
  cs.length = P.cellsOf t ∧ ∃ f, ∀ (i : Nat) (fl : Field), fs[i]? = some fl → ∃ y, DataW.trod enc P w 0 sp held f fl.type ((cs.drop fl.offset).take (P.cellsOf fl.type)) = some y :=
 let ⟨a, f, _, r⟩ := read_struct' hu h
 ⟨a, f, r⟩
theorem read_string {fuel : Nat} {t : TypeId} {cs : List Value} {x : DataW H × List MemPlace} (hu : P.underlying t = some .string) (h : DataW.trod enc P w 0 sp held fuel t cs = some x) : ∃ s : ByteArray, cs = [.string s] ∧ s.size ≤ maxLen := by
 cases fuel with
 | zero => cases h
 | succ f =>
  unfold DataW.trod at h
  rw [hu] at h
  split at h <;> first | (rename_i h0; cases h0; done) | skip
  all_goals first | (exfalso; simp_all; done) | skip
  split at h
  ·rename_i hc; exact ⟨_, rfl, hc⟩
  ·cases h
end
end Bf

