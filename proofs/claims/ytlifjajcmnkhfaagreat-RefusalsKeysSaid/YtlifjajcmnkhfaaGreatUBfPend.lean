/-
 Regions whose order is open: new blocks that may be made at any time ('pending') are walked once, not in every order.
 Conditions: none; plain laws over any program.
-/
import Derived.Test.YtlifjajcmnkhfaaGreatUBfTwo
import Derived.Test.YtlifjajcmnkhfaaGreatUBfBuild
namespace Bf
open Go

theorem AnyI.more {r : Option Nat} {P : Program} {ops : Array Oper} {Q : Exit → Act → World → Prop} : ∀ {f : Nat} {I : World → Prop} {listed : Array Bool} {a : Act} {w : World}, AnyI r P ops Q f I listed a w → AnyI r P ops Q (f + 1) I listed a w
 | 0, _, _, _, _, h => ⟨fun _ => h.2, fun i hi => by rw [h.1] at hi; cases hi⟩
 | _ + 1, _, _, _, _, h => ⟨h.1, fun i hi => wpOpIn_mono (fun _ _ ⟨I', h1, h2, h3⟩ => ⟨I', h1, h2, AnyI.more h3⟩) (h.2 i hi)⟩
theorem AnyI.le {r : Option Nat} {P : Program} {ops : Array Oper} {Q : Exit → Act → World → Prop} {f g : Nat} (hfg : f ≤ g) {I : World → Prop} {listed : Array Bool} {a : Act} {w : World} (h : AnyI r P ops Q f I listed a w) : AnyI r P ops Q g I listed a w := by
 induction hfg with
 | refl => exact h
 | step _ ih => exact ih.more

def allSub (ck : List Nat → List Nat → Bool) : List Nat → List Nat → List Nat → Bool
 | [], T, U => ck T U
 | j :: js, T, U => allSub ck js (T ++ [j]) U && allSub ck js T (U ++ [j])
theorem allSub_spec {ck : List Nat → List Nat → Bool} (t : Nat → Bool) : ∀ {js T U : List Nat}, allSub ck js T U = true → ck (T ++ js.filter t) (U ++ js.filter fun x => !t x) = true
 | [], T, U, h => by simpa [allSub] using h
 | j :: js, T, U, h => by
  simp only [allSub, Bool.and_eq_true] at h
  cases hj : t j
  ·have := allSub_spec t h.2
   simpa [List.filter_cons, hj] using this
  ·have := allSub_spec t h.1
   simpa [List.filter_cons, hj] using this

structure PA where
 i : Nat
 d : Nat
 v : Nat → Value
 R : Nat → Res
 need : Fr
def PA.Ok (r : Option Nat) (P : Program) (E : World) (ops : Array Oper) (Q : Exit → Act → World → Prop) (n : Nat) (p : PA) : Prop :=
 ∃ o, ops[p.i]? = some o ∧ (o.guard = none ∨ ∃ j t b, o.guard = some (j, b) ∧ (ops[j]?).bind (·.dst) = some t ∧ look p.need t = some (.bool b)) ∧
  ∀ fr D M L K, (∀ k v, look p.need k = some v → look fr k = some v) → (∀ b, K ⟨n, (p.d, p.v b) :: fr, D, M, p.R b :: L⟩) → Exec r P E Q ⟨n, fr, D, M, L⟩ o K

def yOf (pend : List PA) (t : Nat → Bool) (b : Nat → Nat) : Fr := (pend.filter (t ·.i)).map fun p => (p.d, p.v (b p.i))
def xOf (pend : List PA) (t : Nat → Bool) (b : Nat → Nat) : List Res := (pend.filter (t ·.i)).map fun p => p.R (b p.i)
def idx (pend : List PA) : List Nat := pend.map (·.i)
def todo (pend : List PA) (t : Nat → Bool) : List Nat := (idx pend).filter fun x => !t x

def TrN (r : Option Nat) (P : Program) (E : World) (ops : Array Oper) (Q : Exit → Act → World → Prop) (pend : List PA) (B : List Res) (fuel : Nat) (l : List Nat) (s : S) : Prop :=
 ∀ (t : Nat → Bool) (b : Nat → Nat), TrA r P E ops Q B (fuel + (todo pend t).length) ((idx pend).filter t ++ l) ⟨s.n, s.fr ++ yOf pend t b, s.D, s.M, s.L ++ xOf pend t b⟩

theorem look_append {a b : Fr} {k : Nat} {v : Value} (h : look a k = some v) : look (a ++ b) k = some v := by
 induction a with
 | nil => cases h
 | cons x a ih =>
  obtain ⟨j, u⟩ := x
  rw [List.cons_append]
  simp only [look] at h ⊢
  cases hj : Nat.beq j k
  ·rw [hj] at h; simp only [cond_false] at h ⊢; exact ih h
  ·rw [hj] at h; simpa using h
theorem look_append_none {a b : Fr} {k : Nat} (h : look a k = none) : look (a ++ b) k = look b k := by
 induction a with
 | nil => rfl
 | cons x a ih =>
  obtain ⟨j, u⟩ := x
  rw [List.cons_append]
  simp only [look] at h ⊢
  cases hj : Nat.beq j k
  ·rw [hj] at h; simp only [cond_false] at h ⊢; exact ih h
  ·rw [hj] at h; simp at h
theorem look_put_mid {a b : Fr} {d k : Nat} {v u : Value} (hd : look a d = none) (h : look (a ++ (d, v) :: b) k = some u) : look ((d, v) :: (a ++ b)) k = some u := by
 by_cases hk : d = k
 ·subst hk
  rw [look_append_none hd, look_cons_eq] at h
  rw [look_cons_eq]; exact h
 ·rw [look_cons_ne hk]
  cases ha : look a k with
  | some w => rw [look_append ha] at h ⊢; exact h
  | none =>
   rw [look_append_none ha, look_cons_ne hk] at h
   rw [look_append_none ha]; exact h

theorem marks_swap {n : Nat} (T : List Nat) (i : Nat) (l : List Nat) : marks n (T ++ i :: l) = marks n (i :: (T ++ l)) := by
 induction T with
 | nil => rfl
 | cons j T ih =>
  show (marks n (T ++ i :: l)).setIfInBounds j true = ((marks n (T ++ l)).setIfInBounds j true).setIfInBounds i true
  rw [ih]
  show ((marks n (T ++ l)).setIfInBounds i true).setIfInBounds j true = _
  by_cases h : i = j
  ·subst h; rfl
  ·exact Array.setIfInBounds_comm _ _ h
theorem marks_perm {n : Nat} {l l' : List Nat} (h : l.Perm l') : marks n l = marks n l' := by
 induction h with
 | nil => rfl
 | cons x _ ih => show (marks n _).setIfInBounds x true = (marks n _).setIfInBounds x true; rw [ih]
 | swap x y l => exact marks_swap [y] x l
 | trans _ _ h1 h2 => exact h1.trans h2

section
variable {r : Option Nat} {P : Program} {E : World} {ops : Array Oper} {Q : Exit → Act → World → Prop} {pend : List PA} {B : List Res} {fuel n : Nat} {l : List Nat} {fr : Fr} {D : List Deferred} {M : Mem} {L : List Res}

theorem TrA.perm {l' : List Nat} {s : S} (h : l.Perm l') (k : TrA r P E ops Q B fuel l' s) : TrA r P E ops Q B fuel l s := fun a w hs => by
 rw [marks_perm h]; exact k a w hs
theorem TrA.le {f g : Nat} {s : S} (h : f ≤ g) (k : TrA r P E ops Q B f l s) : TrA r P E ops Q B g l s := fun a w hs => (k a w hs).le h

theorem TrN.start (pend : List PA) (_ : ∀ p ∈ pend, p.Ok r P E ops Q n) (f : Nat) (hf : Nat.ble pend.length f = true) (h : TrN r P E ops Q pend B (f - pend.length) l ⟨n, fr, D, M, L⟩) : TrA r P E ops Q B f l ⟨n, fr, D, M, L⟩ := by
 have := h (fun _ => false) (fun _ => 0)
 have hf := Nat.ble_eq.mp hf
 have e1 : ∀ l : List Nat, l.filter (fun _ => false) = [] := fun l => by simp
 have e2 : ∀ l : List PA, l.filter (fun _ => false) = [] := fun l => by simp
 have e3 : (todo pend fun _ => false).length = pend.length := by
  unfold todo
  have : (idx pend).filter (fun x => !(fun _ => false) x) = idx pend := List.filter_eq_self.2 fun _ _ => rfl
  rw [this, idx, List.length_map]
 simp only [yOf, xOf, e1, e2, e3, List.map_nil, List.append_nil, List.nil_append, Nat.sub_add_cancel hf] at this
 exact this

theorem TrN.takeY {i d : Nat} {oi : Oper} {v : Value} (hsel : Region.noSelect ops = true) (hi : ops[i]? = some oi) (hc : allSub (fun T _ => chk ops (T ++ l) i) (idx pend) [] [] = true) (hQ : ∀ c a w, Q (.panic c) (a.put oi.dst v) w → Q (.panic c) a w)
  (hB : ∀ r ∈ B, r ∈ L) (hy : ∀ a w, Fits n fr D a → KH M B w → YieldsI P ops (KH M B) oi v a) (hd : oi.dst = some d) (hn : Nat.blt d n = true)
  (h : TrN r P E ops Q pend B fuel (i :: l) ⟨n, (d, v) :: fr, D, M, L⟩) : TrN r P E ops Q pend B (fuel + 1) l ⟨n, fr, D, M, L⟩ := fun t b => by
 have hck := allSub_spec t hc
 simp only [List.nil_append] at hck
 rw [show fuel + 1 + (todo pend t).length = (fuel + (todo pend t).length) + 1 by omega]
 refine TrA.takeY hsel hi hck hQ (fun r hr => List.mem_append_left _ (hB r hr)) (fun a w hf hk => hy a w (hf.sub fun k v hv => look_append hv) hk) hd hn ?_
 exact TrA.perm (List.perm_middle.symm) (h t b)
theorem TrN.take (i : Nat) {d : Nat} {oi : Oper} {v : Value} (hsel : Region.noSelect ops = true) (hi : ops[i]? = some oi) (hc : allSub (fun T _ => chk ops (T ++ l) i) (idx pend) [] [] = true) (hQ : ∀ c a w, Q (.panic c) (a.put oi.dst v) w → Q (.panic c) a w)
  (hB : ∀ r ∈ B, r ∈ L) (hg : oi.guard = none) (hy : Stab P fr M B oi v) (hd : oi.dst = some d) (hn : Nat.blt d n = true)
  (h : TrN r P E ops Q pend B fuel (i :: l) ⟨n, (d, v) :: fr, D, M, L⟩) : TrN r P E ops Q pend B (fuel + 1) l ⟨n, fr, D, M, L⟩ :=
 TrN.takeY hsel hi hc hQ hB (fun a _ hf _ => .inl ⟨by simp [Region.wanted, hg], fun w hw => hy n D a w hf hw⟩) hd hn h
theorem TrN.takeg (i : Nat) {d j t : Nat} {b c : Bool} {oi : Oper} {v : Value} (hsel : Region.noSelect ops = true) (hi : ops[i]? = some oi) (hc : allSub (fun T _ => chk ops (T ++ l) i) (idx pend) [] [] = true) (hQ : ∀ c a w, Q (.panic c) (a.put oi.dst v) w → Q (.panic c) a w)
  (hB : ∀ r ∈ B, r ∈ L) (hg : oi.guard = some (j, b)) (hj : (ops[j]?).bind (·.dst) = some t) (hl : look fr t = some (.bool c)) (hcb : c = b) (hy : Stab P fr M B oi v) (hd : oi.dst = some d) (hn : Nat.blt d n = true)
  (h : TrN r P E ops Q pend B fuel (i :: l) ⟨n, (d, v) :: fr, D, M, L⟩) : TrN r P E ops Q pend B (fuel + 1) l ⟨n, fr, D, M, L⟩ :=
 TrN.takeY hsel hi hc hQ hB (fun a _ hf _ => .inl ⟨by simp [Region.wanted, hg, yielded_of hf hj hl, hcb], fun w hw => hy n D a w hf hw⟩) hd hn h
theorem TrN.takeu (i : Nat) {d j t : Nat} {b c : Bool} {oi : Oper} (hsel : Region.noSelect ops = true) (hi : ops[i]? = some oi) (hc : allSub (fun T _ => chk ops (T ++ l) i) (idx pend) [] [] = true) (hQ : ∀ c a w, Q (.panic c) (a.put oi.dst undef) w → Q (.panic c) a w)
  (hB : ∀ r ∈ B, r ∈ L) (hg : oi.guard = some (j, b)) (hj : (ops[j]?).bind (·.dst) = some t) (hl : look fr t = some (.bool c)) (hcb : (c == b) = false) (hd : oi.dst = some d) (hn : Nat.blt d n = true)
  (h : TrN r P E ops Q pend B fuel (i :: l) ⟨n, (d, undef) :: fr, D, M, L⟩) : TrN r P E ops Q pend B (fuel + 1) l ⟨n, fr, D, M, L⟩ :=
 TrN.takeY hsel hi hc hQ hB (fun a _ hf _ => .inr ⟨by simp only [Region.wanted, hg, yielded_of hf hj hl]; simpa using hcb, rfl⟩) hd hn h

theorem pend_split {pend : List PA} {p : PA} (hp : p ∈ pend) (hi : (idx pend).Nodup) : ∃ A C, pend = A ++ p :: C ∧ (∀ q ∈ A, q.i ≠ p.i) ∧ (∀ q ∈ C, q.i ≠ p.i) := by
 obtain ⟨A, C, rfl⟩ := List.append_of_mem hp
 refine ⟨A, C, rfl, ?_, ?_⟩
 ·intro q hq he
  simp only [idx, List.map_append, List.map_cons, List.nodup_append] at hi
  exact hi.2.2 q.i (List.mem_map_of_mem hq) p.i (by simp) he
 ·intro q hq he
  simp only [idx, List.map_append, List.map_cons, List.nodup_append, List.nodup_cons] at hi
  exact hi.2.1.1 (he ▸ List.mem_map_of_mem hq)
def more (t : Nat → Bool) (i : Nat) : Nat → Bool := fun x => x == i || t x
def withB (b : Nat → Nat) (i c : Nat) : Nat → Nat := fun x => if x = i then c else b x
theorem filter_more {A : List PA} {i : Nat} (t : Nat → Bool) (h : ∀ q ∈ A, q.i ≠ i) : A.filter (more t i ·.i) = A.filter (t ·.i) := List.filter_congr fun q hq => by simp [more, h q hq]

theorem TrN.alloc (hi : (idx pend).Nodup) (hds : (pend.map (·.d)).Nodup) {p : PA} (hp : p ∈ pend) {t : Nat → Bool} (ht : t p.i = false) {b : Nat → Nat} (hfr : look fr p.d = none) (hneed : ∀ k v, look p.need k = some v → look fr k = some v) (hok : p.Ok r P E ops Q n) {f : Nat}
  (hB : ∀ r ∈ B, r ∈ L)
  (h : ∀ c, TrA r P E ops Q B f ((idx pend).filter (more t p.i) ++ l) ⟨n, fr ++ yOf pend (more t p.i) (withB b p.i c), D, M, L ++ xOf pend (more t p.i) (withB b p.i c)⟩) {a : Act} {w : World}
  (hs : S.holds E ⟨n, fr ++ yOf pend t b, D, M, L ++ xOf pend t b⟩ a w) :
  wpOpIn (rf r) 0 P ops Q p.i (fun a' w' => ∃ I' : World → Prop, I' w' ∧ (depAll ops (marks ops.size ((idx pend).filter t ++ l)) p.i = false → ∀ w, I' w → KH M B w) ∧ AnyI r P ops Q f I' ((marks ops.size ((idx pend).filter t ++ l)).setIfInBounds p.i true) a' w') a w := by
 obtain ⟨o, ho, hg, hx⟩ := hok
 unfold wpOpIn
 simp only [ho]
 have hg' : o.guard = none ∨ ∃ j t' b', o.guard = some (j, b') ∧ (ops[j]?).bind (·.dst) = some t' ∧ look (fr ++ yOf pend t b) t' = some (.bool b') := by
  rcases hg with hg | ⟨j, t', b', h1, h2, h3⟩
  ·exact .inl hg
  ·exact .inr ⟨j, t', b', h1, h2, look_append (hneed _ _ h3)⟩
 rw [if_pos (wanted_of hs.fits hg')]
 obtain ⟨A, C, hAC, hA, hC⟩ := pend_split hp hi
 have hdA : ∀ q ∈ A, q.d ≠ p.d := by
  intro q hq he
  subst hAC
  simp only [List.map_append, List.map_cons, List.nodup_append] at hds
  exact hds.2.2 q.d (List.mem_map_of_mem hq) p.d (by simp) he
 have ht' : more t p.i p.i = true := by simp [more]
 have hf1 : pend.filter (t ·.i) = A.filter (t ·.i) ++ C.filter (t ·.i) := by rw [hAC, List.filter_append, List.filter_cons]; simp [ht]
 have hf2 : pend.filter (more t p.i ·.i) = A.filter (t ·.i) ++ p :: C.filter (t ·.i) := by rw [hAC, List.filter_append, List.filter_cons, filter_more t hA, filter_more t hC]; simp [ht']
 have hbA : ∀ c, ∀ q ∈ A.filter (t ·.i), withB b p.i c q.i = b q.i := fun c q hq => by simp [withB, hA q ((List.mem_filter.1 hq).1)]
 have hbC : ∀ c, ∀ q ∈ C.filter (t ·.i), withB b p.i c q.i = b q.i := fun c q hq => by simp [withB, hC q ((List.mem_filter.1 hq).1)]
 have hcp : ∀ c, withB b p.i c p.i = c := fun c => by simp [withB]
 have hidx : (idx pend).filter t = (A.filter (t ·.i) ++ C.filter (t ·.i)).map (·.i) := by
  rw [← hf1, idx, List.filter_map]; rfl
 have hidx' : (idx pend).filter (more t p.i) = (A.filter (t ·.i) ++ p :: C.filter (t ·.i)).map (·.i) := by
  rw [← hf2, idx, List.filter_map]; rfl
 have hmk : marks ops.size (p.i :: ((idx pend).filter t ++ l)) = marks ops.size ((idx pend).filter (more t p.i) ++ l) := by
  apply marks_perm
  rw [hidx, hidx']
  simp only [List.map_append, List.map_cons, List.append_assoc, List.cons_append]
  exact List.perm_middle.symm
 have key := hx (fr ++ yOf pend t b) D M (L ++ xOf pend t b) (fun s' => ∃ c, s'.M = M ∧ (∀ a w, s'.holds E a w → S.holds E ⟨n, fr ++ yOf pend (more t p.i) (withB b p.i c), D, M, L ++ xOf pend (more t p.i) (withB b p.i c)⟩ a w))
  (fun k v hv => look_append (hneed k v hv)) (fun c => ⟨c, rfl, fun a w hh => ⟨hh.fits.sub ?_, hh.own.perm ?_⟩⟩)
 ·refine Oper.wpIn_mono ?_ (key a w hs)
  rintro a' w' ⟨s', h1, c, hM, h2⟩
  have h3 := h2 a' w' h1
  refine ⟨KH M B, ⟨h3.own.mem, fun r hr => h3.own.res r (List.mem_append_left _ (hB r hr))⟩, fun _ w hw => hw, ?_⟩
  have := h c a' w' h3
  rw [← hmk] at this
  exact this
 ·intro k v hv
  simp only [yOf, hf1, hf2, List.map_append, List.map_cons] at hv ⊢
  rw [hcp] at hv
  rw [List.map_congr_left (g := fun p => (p.d, p.v (b p.i))) (fun q hq => by rw [hbA c q hq]), List.map_congr_left (l := C.filter (t ·.i)) (g := fun p => (p.d, p.v (b p.i))) (fun q hq => by rw [hbC c q hq])] at hv
  rw [← List.append_assoc] at hv ⊢
  refine look_put_mid ?_ hv
  rw [look_append_none hfr]
  have : ∀ l : List PA, (∀ q ∈ l, q.d ≠ p.d) → look (l.map fun p => (p.d, p.v (b p.i))) p.d = none := by
   intro l hl
   induction l with
   | nil => rfl
   | cons q l ih => rw [List.map_cons, look_cons_ne (hl q (by simp))]; exact ih fun x hx => hl x (by simp [hx])
  exact this _ fun q hq => hdA q ((List.mem_filter.1 hq).1)
 ·simp only [xOf, hf1, hf2, List.map_append, List.map_cons]
  rw [hcp]
  rw [List.map_congr_left (g := fun p => p.R (b p.i)) (fun q hq => by rw [hbA c q hq]), List.map_congr_left (l := C.filter (t ·.i)) (g := fun p => p.R (b p.i)) (fun q hq => by rw [hbC c q hq])]
  rw [← List.append_assoc, ← List.append_assoc]
  exact List.perm_middle

inductive App {α : Type} (Y : List α) : List α → List α → Prop
 | nil : App Y [] Y
 | app {F : List α} : App Y F (F ++ Y)
 | cons {x : α} {l m : List α} (h : App Y l m) : App Y (x :: l) (x :: m)
theorem App.eq {α : Type} {Y l m : List α} (h : App Y l m) : m = l ++ Y := by
 induction h with
 | nil => rfl
 | app => rfl
 | cons _ ih => rw [ih]; rfl

theorem todo_more {t : Nat → Bool} {p : PA} (hp : p ∈ pend) (ht : t p.i = false) : (todo pend (more t p.i)).length < (todo pend t).length := by
 unfold todo
 have : p.i ∈ idx pend := List.mem_map_of_mem hp
 generalize idx pend = js at this ⊢
 induction js with
 | nil => simp at this
 | cons x l ih =>
  have hle : ∀ l : List Nat, (l.filter fun x => !more t p.i x).length ≤ (l.filter fun x => !t x).length := by
   intro l
   induction l with
   | nil => simp
   | cons y l ih =>
    by_cases hy : y = p.i
    ·subst hy
     have e1 : (p.i :: l).filter (fun x => !more t p.i x) = l.filter (fun x => !more t p.i x) := by rw [List.filter_cons]; simp [more]
     have e2 : (p.i :: l).filter (fun x => !t x) = p.i :: l.filter (fun x => !t x) := by rw [List.filter_cons]; simp [ht]
     rw [e1, e2, List.length_cons]
     omega
    ·have e0 : (!more t p.i y) = !t y := by simp [more, hy]
     rw [List.filter_cons, List.filter_cons, e0]
     split
     ·rw [List.length_cons, List.length_cons]; omega
     ·exact ih
  by_cases hx : x = p.i
  ·subst hx
   have := hle l
   have e1 : (p.i :: l).filter (fun x => !more t p.i x) = l.filter (fun x => !more t p.i x) := by rw [List.filter_cons]; simp [more]
   have e2 : (p.i :: l).filter (fun x => !t x) = p.i :: l.filter (fun x => !t x) := by rw [List.filter_cons]; simp [ht]
   rw [e1, e2, List.length_cons]
   omega
  ·have hm : p.i ∈ l := by
    rcases List.mem_cons.1 this with h | h
    ·exact absurd h.symm hx
    ·exact h
   have := ih hm
   have e0 : (!more t p.i x) = !t x := by simp [more, hx]
   rw [List.filter_cons, List.filter_cons, e0]
   split
   ·rw [List.length_cons, List.length_cons]; omega
   ·exact this

def onlyN (ops : Array Oper) (pend : List Nat) (l es : List Nat) : Bool :=
 allSub (fun T U => (Region.ready .any ops (marks ops.size (T ++ l))).all (fun j => es.contains j || U.contains j) && !(Region.ready .any ops (marks ops.size (T ++ l))).isEmpty) pend [] []

theorem TrN.effs (es : List Nat) (hi : (idx pend).Nodup) (hds : (pend.map (·.d)).Nodup) (ho : onlyN ops (idx pend) l es = true) (hfr : ∀ p ∈ pend, look fr p.d = none) (hneed : ∀ p ∈ pend, ∀ k v, look p.need k = some v → look fr k = some v) (hok : ∀ p ∈ pend, p.Ok r P E ops Q n)
  (hB : ∀ r ∈ B, r ∈ L)
  (h : ∀ i ∈ es, ∃ oi, ops[i]? = some oi ∧ (oi.guard = none ∨ ∃ j t b, oi.guard = some (j, b) ∧ (ops[j]?).bind (·.dst) = some t ∧ look fr t = some (.bool b)) ∧
   ∀ Y X, Exec r P E Q ⟨n, fr ++ Y, D, M, L ++ X⟩ oi fun s' => ∃ fr' L', App Y fr' s'.fr ∧ App X L' s'.L ∧ Mem.le M s'.M ∧ (∀ r ∈ B, r ∈ L') ∧ TrN r P E ops Q pend B fuel (i :: l) ⟨s'.n, fr', s'.D, s'.M, L'⟩) :
  TrN r P E ops Q pend B (fuel + 1) l ⟨n, fr, D, M, L⟩ := by
 have main : ∀ k (t : Nat → Bool) (b : Nat → Nat), (todo pend t).length ≤ k → TrA r P E ops Q B (fuel + 1 + k) ((idx pend).filter t ++ l) ⟨n, fr ++ yOf pend t b, D, M, L ++ xOf pend t b⟩ := by
  intro k
  induction k with
  | zero =>
   intro t b hk a w hs
   have hck := allSub_spec t ho
   simp only [List.nil_append, Bool.and_eq_true, List.all_eq_true] at hck
   refine ⟨fun he => by rw [he] at hck; exact absurd hck.2 (by simp), fun j hj => ?_⟩
   have h0 : todo pend t = [] := List.length_eq_zero_iff.1 (by omega)
   have hj' := hck.1 j hj
   have hje : j ∈ es := by
    simp only [Bool.or_eq_true, List.contains_iff_mem] at hj'
    rcases hj' with h | h
    ·exact h
    ·exact absurd h (by have := h0; unfold todo at this; rw [this]; simp)
   obtain ⟨oi, h1, h2, h3⟩ := h j hje
   unfold wpOpIn
   simp only [h1]
   have hg' : oi.guard = none ∨ ∃ j t' b', oi.guard = some (j, b') ∧ (ops[j]?).bind (·.dst) = some t' ∧ look (fr ++ yOf pend t b) t' = some (.bool b') := by
    rcases h2 with hg | ⟨j, t', b', q1, q2, q3⟩
    ·exact .inl hg
    ·exact .inr ⟨j, t', b', q1, q2, look_append q3⟩
   rw [if_pos (wanted_of hs.fits hg')]
   refine Oper.wpIn_mono ?_ (h3 _ _ a w hs)
   rintro a' w' ⟨s', g1, fr', L', g2, g3, g4, g5, g6⟩
   refine ⟨KH s'.M B, ⟨g1.own.mem, fun r hr => g1.own.res r (by rw [g3.eq]; exact List.mem_append_left _ (g5 r hr))⟩, fun _ w hw => ⟨fun b o hb => hw.mem b o (g4 b o hb), hw.res⟩, ?_⟩
   have := g6 t b
   rw [← g2.eq, ← g3.eq, h0] at this
   exact (TrA.perm List.perm_middle.symm this) a' w' g1
  | succ k ih =>
   intro t b hk a w hs
   have hck := allSub_spec t ho
   simp only [List.nil_append, Bool.and_eq_true, List.all_eq_true] at hck
   refine ⟨fun he => by rw [he] at hck; exact absurd hck.2 (by simp), fun j hj => ?_⟩
   have hj' := hck.1 j hj
   simp only [Bool.or_eq_true, List.contains_iff_mem] at hj'
   rcases hj' with hje | hjp
   ·obtain ⟨oi, h1, h2, h3⟩ := h j hje
    unfold wpOpIn
    simp only [h1]
    have hg' : oi.guard = none ∨ ∃ j t' b', oi.guard = some (j, b') ∧ (ops[j]?).bind (·.dst) = some t' ∧ look (fr ++ yOf pend t b) t' = some (.bool b') := by
     rcases h2 with hg | ⟨j, t', b', q1, q2, q3⟩
     ·exact .inl hg
     ·exact .inr ⟨j, t', b', q1, q2, look_append q3⟩
    rw [if_pos (wanted_of hs.fits hg')]
    refine Oper.wpIn_mono ?_ (h3 _ _ a w hs)
    rintro a' w' ⟨s', g1, fr', L', g2, g3, g4, g5, g6⟩
    refine ⟨KH s'.M B, ⟨g1.own.mem, fun r hr => g1.own.res r (by rw [g3.eq]; exact List.mem_append_left _ (g5 r hr))⟩, fun _ w hw => ⟨fun b o hb => hw.mem b o (g4 b o hb), hw.res⟩, ?_⟩
    have := g6 t b
    rw [← g2.eq, ← g3.eq] at this
    exact AnyI.le (show fuel + (todo pend t).length ≤ (fuel + 1).add k by show _ ≤ fuel + 1 + k; omega) ((TrA.perm List.perm_middle.symm this) a' w' g1)
   ·have hm := List.mem_filter.1 hjp
    obtain ⟨p, hp, rfl⟩ := List.mem_map.1 hm.1
    have ht : t p.i = false := by simpa using hm.2
    have hlt := todo_more hp ht
    exact TrN.alloc hi hds hp ht (hfr p hp) (hneed p hp) (hok p hp) hB (fun c => ih _ _ (by omega)) hs
 intro t b
 exact main _ t b (Nat.le_refl _)

def LandA (K : List Nat → Fr → List Res → Prop) : List PA → List Nat → Fr → List Res → Prop
 | [], l, fr, L => K l fr L
 | p :: ps, l, fr, L => ∀ b, LandA K ps (p.i :: l) ((p.d, p.v b) :: fr) (p.R b :: L)
theorem LandA.use {K : List Nat → Fr → List Res → Prop} : ∀ {ps : List PA} {l : List Nat} {fr : Fr} {L : List Res}, LandA K ps l fr L → ∀ b : Nat → Nat, K (((idx ps).reverse) ++ l) ((ps.map fun p => (p.d, p.v (b p.i))).reverse ++ fr) ((ps.map fun p => p.R (b p.i)).reverse ++ L)
 | [], _, _, _, h, _ => h
 | p :: ps, l, fr, L, h, b => by
  have := LandA.use (h (b p.i)) b
  simpa [idx] using this
theorem look_rev {A : Fr} (h : (A.map (·.1)).Nodup) {k : Nat} : look A.reverse k = look A k := by
 induction A with
 | nil => rfl
 | cons x A ih =>
  obtain ⟨j, u⟩ := x
  simp only [List.map_cons, List.nodup_cons] at h
  rw [List.reverse_cons]
  by_cases hj : j = k
  ·subst hj
   have : look A j = none := by
    have h1 := h.1
    clear ih h
    induction A with
    | nil => rfl
    | cons y A ih =>
     obtain ⟨m, z⟩ := y
     simp at h1
     rw [look_cons_ne (Ne.symm h1.1)]
     exact ih (by simpa using h1.2)
   rw [look_cons_eq, look_append_none (by rw [ih h.2]; exact this), look_cons_eq]
  ·rw [look_cons_ne hj, ← ih h.2]
   cases hk : look A.reverse k with
   | some w => exact look_append hk
   | none => rw [look_append_none hk, look_cons_ne hj]; rfl
theorem TrN.land (hi : (idx pend).Nodup) (hds : (pend.map (·.d)).Nodup) (ho : allSub (fun T U => (Region.ready .any ops (marks ops.size (T ++ l))).all (fun j => U.contains j) && (U.isEmpty || !(Region.ready .any ops (marks ops.size (T ++ l))).isEmpty)) (idx pend) [] [] = true ∨ allSub (fun T U => U.isEmpty || ((Region.ready .any ops (marks ops.size (T ++ l))).all (fun j => U.contains j) && !(Region.ready .any ops (marks ops.size (T ++ l))).isEmpty)) (idx pend) [] [] = true)
  (hfr : ∀ p ∈ pend, look fr p.d = none) (hneed : ∀ p ∈ pend, ∀ k v, look p.need k = some v → look fr k = some v) (hok : ∀ p ∈ pend, p.Ok r P E ops Q n)
  (hB : ∀ r ∈ B, r ∈ L)
  (h : LandA (fun l fr L => TrA r P E ops Q B fuel l ⟨n, fr, D, M, L⟩) pend l fr L) : TrN r P E ops Q pend B fuel l ⟨n, fr, D, M, L⟩ := by
 have full : ∀ (t : Nat → Bool) (b : Nat → Nat), (∀ p ∈ pend, t p.i = true) → TrA r P E ops Q B fuel ((idx pend).filter t ++ l) ⟨n, fr ++ yOf pend t b, D, M, L ++ xOf pend t b⟩ := by
  intro t b ht
  have h1 := h.use b
  have e1 : pend.filter (t ·.i) = pend := List.filter_eq_self.2 ht
  have e2 : (idx pend).filter t = idx pend := List.filter_eq_self.2 fun x hx => by
   obtain ⟨p, hp, rfl⟩ := List.mem_map.1 hx
   exact ht p hp
  rw [yOf, xOf, e1, e2]
  refine TrA.perm (l' := (idx pend).reverse ++ l) ((List.reverse_perm _).symm.append_right l) fun a w hs => h1 a w ⟨hs.fits.sub ?_, hs.own.perm ?_⟩
  ·intro k v hv
   have hnd : ((pend.map fun p => (p.d, p.v (b p.i))).map (·.1)).Nodup := by
    rw [List.map_map]; exact hds
   cases hk : look (pend.map fun p => (p.d, p.v (b p.i))).reverse k with
   | none =>
    rw [look_append_none hk] at hv
    exact look_append hv
   | some u =>
    rw [look_append hk] at hv
    rw [look_rev hnd] at hk
    have : look fr k = none := by
     have : ∃ p ∈ pend, p.d = k := by
      clear hv hnd h h1 e1 e2 hs ht hok hneed hfr hds hi ho hB
      revert hk
      induction pend with
      | nil => intro hk; cases hk
      | cons q ps ih =>
       intro hk
       by_cases hq : q.d = k
       ·exact ⟨q, by simp, hq⟩
       ·rw [List.map_cons, look_cons_ne hq] at hk
        obtain ⟨p, hp, he⟩ := ih hk
        exact ⟨p, by simp [hp], he⟩
     obtain ⟨p, hp, rfl⟩ := this
     exact hfr p hp
    rw [look_append_none this, hk]
    exact hv
  ·exact ((List.reverse_perm _).append_right L).trans List.perm_append_comm
 have main : ∀ k (t : Nat → Bool) (b : Nat → Nat), (todo pend t).length ≤ k → TrA r P E ops Q B (fuel + k) ((idx pend).filter t ++ l) ⟨n, fr ++ yOf pend t b, D, M, L ++ xOf pend t b⟩ := by
  intro k
  induction k with
  | zero =>
   intro t b hk
   have h0 : todo pend t = [] := List.length_eq_zero_iff.1 (by omega)
   refine full t b fun p hp => ?_
   unfold todo at h0
   rw [List.filter_eq_nil_iff] at h0
   simpa using h0 p.i (List.mem_map_of_mem hp)
  | succ k ih =>
   intro t b hk
   by_cases h0 : todo pend t = []
   ·refine TrA.le (by omega) (full t b fun p hp => ?_)
    unfold todo at h0
    rw [List.filter_eq_nil_iff] at h0
    simpa using h0 p.i (List.mem_map_of_mem hp)
   intro a w hs
   have hck : (∀ j ∈ Region.ready .any ops (marks ops.size ((idx pend).filter t ++ l)), j ∈ todo pend t) ∧ Region.ready .any ops (marks ops.size ((idx pend).filter t ++ l)) ≠ [] := by
    have hne : (todo pend t).isEmpty = false := by simpa using h0
    unfold todo at hne
    rcases ho with ho | ho
    ·have hck := allSub_spec t ho
     simp only [List.nil_append, Bool.and_eq_true, List.all_eq_true, hne, Bool.false_or, List.contains_iff_mem] at hck
     exact ⟨hck.1, fun he => by rw [he] at hck; exact absurd hck.2 (by simp)⟩
    ·have hck := allSub_spec t ho
     simp only [List.nil_append, Bool.and_eq_true, List.all_eq_true, hne, Bool.false_or, List.contains_iff_mem] at hck
     exact ⟨hck.1, fun he => by rw [he] at hck; exact absurd hck.2 (by simp)⟩
   refine ⟨fun he => absurd he hck.2, fun j hj => ?_⟩
   have hm := List.mem_filter.1 (hck.1 j hj)
   obtain ⟨p, hp, rfl⟩ := List.mem_map.1 hm.1
   have ht : t p.i = false := by simpa using hm.2
   have hlt := todo_more hp ht
   exact TrN.alloc hi hds hp ht (hfr p hp) (hneed p hp) (hok p hp) hB (fun c => ih _ _ (by omega)) hs
 intro t b
 exact main _ t b (Nat.le_refl _)

theorem look_mid_put {a b : Fr} {d k : Nat} {v u : Value} (hd : look a d = none) (h : look ((d, v) :: (a ++ b)) k = some u) : look (a ++ (d, v) :: b) k = some u := by
 by_cases hk : d = k
 ·subst hk
  rw [look_append_none hd, look_cons_eq]
  rw [look_cons_eq] at h; exact h
 ·rw [look_cons_ne hk] at h
  cases ha : look a k with
  | some w => rw [look_append ha] at h ⊢; exact h
  | none =>
   rw [look_append_none ha] at h
   rw [look_append_none ha, look_cons_ne hk]; exact h
theorem TrN.settle {p : PA} {ps : List PA} (hi : (idx (p :: ps)).Nodup) (hds : ((p :: ps).map (·.d)).Nodup)
  (ho : allSub (fun T U => T.contains p.i || ((Region.ready .any ops (marks ops.size (T ++ l))).all (fun j => U.contains j) && !(Region.ready .any ops (marks ops.size (T ++ l))).isEmpty)) (idx (p :: ps)) [] [] = true)
  (hfr : ∀ q ∈ p :: ps, look fr q.d = none) (hneed : ∀ q ∈ p :: ps, ∀ k v, look q.need k = some v → look fr k = some v) (hok : ∀ q ∈ p :: ps, q.Ok r P E ops Q n)
  (hB : ∀ r ∈ B, r ∈ L)
  (h : ∀ b, TrN r P E ops Q ps B fuel (p.i :: l) ⟨n, (p.d, p.v b) :: fr, D, M, p.R b :: L⟩) : TrN r P E ops Q (p :: ps) B fuel l ⟨n, fr, D, M, L⟩ := by
 have full : ∀ (t : Nat → Bool) (b : Nat → Nat), t p.i = true → TrA r P E ops Q B (fuel + (todo (p :: ps) t).length) ((idx (p :: ps)).filter t ++ l) ⟨n, fr ++ yOf (p :: ps) t b, D, M, L ++ xOf (p :: ps) t b⟩ := by
  intro t b ht
  have h1 := h (b p.i) t b
  have e1 : (p :: ps).filter (t ·.i) = p :: ps.filter (t ·.i) := by rw [List.filter_cons]; simp [ht]
  have e2 : (idx (p :: ps)).filter t = p.i :: (idx ps).filter t := by show List.filter t (p.i :: idx ps) = _; rw [List.filter_cons]; simp [ht]
  have e3 : todo (p :: ps) t = todo ps t := by show List.filter _ (p.i :: idx ps) = _; rw [List.filter_cons]; simp [ht, todo]
  have ey : yOf (p :: ps) t b = (p.d, p.v (b p.i)) :: yOf ps t b := by simp only [yOf, e1, List.map_cons]
  have ex : xOf (p :: ps) t b = p.R (b p.i) :: xOf ps t b := by simp only [xOf, e1, List.map_cons]
  rw [e2, e3, ey, ex]
  refine TrA.perm (l' := (idx ps).filter t ++ p.i :: l) (by rw [List.cons_append]; exact List.perm_middle.symm) fun a w hs => h1 a w ⟨hs.fits.sub ?_, hs.own.perm ?_⟩
  ·intro k v hv
   exact look_mid_put (hfr p (by simp)) hv
  ·rw [List.cons_append]; exact List.perm_middle.symm
 have main : ∀ k (t : Nat → Bool) (b : Nat → Nat), (todo (p :: ps) t).length ≤ k → TrA r P E ops Q B (fuel + k) ((idx (p :: ps)).filter t ++ l) ⟨n, fr ++ yOf (p :: ps) t b, D, M, L ++ xOf (p :: ps) t b⟩ := by
  intro k
  induction k with
  | zero =>
   intro t b hk
   have h0 : todo (p :: ps) t = [] := List.length_eq_zero_iff.1 (by omega)
   refine TrA.le (by omega) (full t b ?_)
   unfold todo at h0
   rw [List.filter_eq_nil_iff] at h0
   simpa using h0 p.i (by simp [idx])
  | succ k ih =>
   intro t b hk
   cases htp : t p.i with
   | true => exact TrA.le (by omega) (full t b htp)
   | false =>
    intro a w hs
    have hck := allSub_spec t ho
    have hnp : ((idx (p :: ps)).filter t).contains p.i = false := by
     rw [← Bool.not_eq_true, List.contains_iff_mem]
     intro hm
     have := (List.mem_filter.1 hm).2
     rw [htp] at this; cases this
    simp only [List.nil_append, hnp, Bool.false_or, Bool.and_eq_true, List.all_eq_true, List.contains_iff_mem] at hck
    refine ⟨fun he => by rw [he] at hck; exact absurd hck.2 (by simp), fun j hj => ?_⟩
    have hm := List.mem_filter.1 (hck.1 j hj)
    obtain ⟨q, hq, rfl⟩ := List.mem_map.1 hm.1
    have ht : t q.i = false := by simpa using hm.2
    have hlt := todo_more hq ht
    exact TrN.alloc hi hds hq ht (hfr q hq) (hneed q hq) (hok q hq) hB (fun c => ih _ _ (by omega)) hs
 intro t b
 exact main _ t b (Nat.le_refl _)

theorem BuildP.frame {fr fr' : Fr} (h : ∀ k v, look fr k = some v → look fr' k = some v) {places : Nat → Option (Nat × Nat)} {ps : List (Nat × Operand)} {l m : List Value} (hb : BuildP fr places ps l m) : BuildP fr' places ps l m := by
 have hev : ∀ x v, ev fr x = some v → ev fr' x = some v := fun x v hx => by
  cases x with
  | tmp t => exact h t v hx
  | _ => exact hx
 induction hb with
 | nil => exact .nil
 | one hp hx hv hs _ ih => exact .one hp (hev _ _ hx) hv hs ih
 | many hp hx hl h0 hs _ ih => exact .many hp (hev _ _ hx) hl h0 hs ih
theorem PA.alloc (i : Nat) {t : TypeId} {ty : TyI} {cs : List Value} {d : Nat} {tt : TypeId} {pos : String} {aft : Array Edge} (hi : ops[i]? = some ⟨some d, .alloc t, tt, pos, aft, none⟩) (hT : HasTy P t ty) (hz : ty.zero = .agg cs.toArray) (hn : Nat.blt d n = true) :
  PA.Ok r P E ops Q n ⟨i, d, fun b => .pointer (some ⟨b, 0, none⟩), fun b => box b t cs, []⟩ :=
 ⟨_, hi, .inl rfl, fun _ _ _ _ _ _ hk => Exec.alloc hT hz hn hk⟩
theorem PA.alloc1 (i : Nat) {t : TypeId} {ty : TyI} {z : Value} {d : Nat} {tt : TypeId} {pos : String} {aft : Array Edge} (hi : ops[i]? = some ⟨some d, .alloc t, tt, pos, aft, none⟩) (hT : HasTy P t ty) (hz : ty.zero = z) (h1 : z.oneCell' = true) (hn : Nat.blt d n = true) :
  PA.Ok r P E ops Q n ⟨i, d, fun b => .pointer (some ⟨b, 0, none⟩), fun b => box b t [z], []⟩ :=
 ⟨_, hi, .inl rfl, fun _ _ _ _ _ _ hk => Exec.alloc1 hT hz h1 hn hk⟩
theorem PA.build (i : Nat) (need : Fr) {t e : TypeId} {ty ei : TyI} {sz : Nat} {N : Nat} {ps : List (Nat × Operand)} {z cs : List Value} {d : Nat} {tt : TypeId} {pos : String} {aft : Array Edge} {g : Option (Nat × Bool)} (hi : ops[i]? = some ⟨some d, .buildSlice t N ps.toArray, tt, pos, aft, g⟩)
  (hg : g = none ∨ ∃ j t b, g = some (j, b) ∧ (ops[j]?).bind (·.dst) = some t ∧ look need t = some (.bool b)) (hT : HasTy P t ty) (hd : ty.desc = .slice e) (hE : HasTy P e ei) (hsz : szOf ei = some sz) (hz : ei.zero.cells.toList = z) (hzl : z.length = sz) (hp : Nat.blt 0 sz = true)
  (hN : Nat.ble (N * sz) 16777216 = true) (hb : BuildP need (fun k => some (k * sz, sz)) ps (zerosL z N) cs) (hn : Nat.blt d n = true) :
  PA.Ok r P E ops Q n ⟨i, d, fun b => .slice (some ⟨b, 0, none⟩) N N, fun b => Bf.box b e cs, need⟩ :=
 ⟨_, hi, hg, fun _ _ _ _ _ hne hk => Exec.buildSlice hT hd hE hsz hz hzl hp hN (hb.frame hne) hn hk⟩

theorem PA.build1 (i : Nat) {t e : TypeId} {ty ei : TyI} {sz : Nat} {s : Nat} {z vs : List Value} {d : Nat} {tt : TypeId} {pos : String} {aft : Array Edge} (need : Fr) {g : Option (Nat × Bool)} (hi : ops[i]? = some ⟨some d, .buildSlice t 1 #[(0, .tmp s)], tt, pos, aft, g⟩)
  (hg : g = none ∨ ∃ j t b, g = some (j, b) ∧ (ops[j]?).bind (·.dst) = some t ∧ look need t = some (.bool b)) (hs : look need s = some (.agg vs.toArray)) (hT : HasTy P t ty) (hd : ty.desc = .slice e) (hE : HasTy P e ei) (hsz : szOf ei = some sz) (hz : ei.zero.cells.toList = z) (hzl : z.length = sz) (hp : Nat.blt 0 sz = true)
  (hN : Nat.ble (1 * sz) 16777216 = true) (hl : vs.length = sz) (hn : Nat.blt d n = true) :
  PA.Ok r P E ops Q n ⟨i, d, fun b => .slice (some ⟨b, 0, none⟩) 1 1, fun b => Bf.box b e vs, need⟩ :=
 ⟨_, hi, hg, fun _ _ _ _ _ hne hk => Exec.buildSlice1 (hne _ _ hs) hT hd hE hsz hz hzl hp hN hl hn hk⟩
inductive PendOk (fr : Fr) : List PA → Prop
 | nil : PendOk fr []
 | cons {p : PA} {ps : List PA} (h1 : look fr p.d = none) (h2 : SubFr fr p.need) (h : PendOk fr ps) : PendOk fr (p :: ps)
theorem SubFr.look {fr fr' : Fr} (h : SubFr fr fr') {k : Nat} {v : Value} (hk : Bf.look fr' k = some v) : Bf.look fr k = some v := by
 induction h with
 | nil => cases hk
 | @cons j u r h1 _ ih =>
  by_cases hj : j = k
  ·subst hj
   rw [look_cons_eq] at hk
   rw [h1]; exact hk
  ·rw [look_cons_ne hj] at hk
   exact ih hk
theorem PendOk.fresh {ps : List PA} (h : PendOk fr ps) : ∀ p ∈ ps, look fr p.d = none := by
 induction h with
 | nil => simp
 | cons h1 _ _ ih =>
  intro p hp
  rcases List.mem_cons.1 hp with rfl | hp
  ·exact h1
  ·exact ih p hp
theorem PendOk.needs {ps : List PA} (h : PendOk fr ps) : ∀ p ∈ ps, ∀ k v, look p.need k = some v → look fr k = some v := by
 induction h with
 | nil => simp
 | cons _ h2 _ ih =>
  intro p hp
  rcases List.mem_cons.1 hp with rfl | hp
  ·exact fun k v hk => h2.look hk
  ·exact ih p hp
def nodupB : List Nat → Bool
 | [] => true
 | x :: l => !l.contains x && nodupB l
theorem nodupB_spec : ∀ {l : List Nat}, nodupB l = true → l.Nodup
 | [], _ => List.nodup_nil
 | x :: l, h => by
  simp only [nodupB, Bool.and_eq_true, Bool.not_eq_true', ← Bool.not_eq_true, List.contains_iff_mem] at h
  exact List.nodup_cons.2 ⟨h.1, nodupB_spec h.2⟩
inductive AppF {α : Type} : List α → (List α → List α) → Prop
 | nil : AppF [] fun Y => Y
 | app {F : List α} : AppF F fun Y => F ++ Y
 | cons {x : α} {l : List α} {f : List α → List α} (h : AppF l f) : AppF (x :: l) fun Y => x :: f Y
theorem AppF.eq {α : Type} {l : List α} {f : List α → List α} (h : AppF l f) (Y : List α) : l ++ Y = f Y := by
 induction h with
 | nil => rfl
 | app => rfl
 | cons _ ih => rw [List.cons_append, ih]
def TrM (r : Option Nat) (P : Program) (E : World) (ops : Array Oper) (Q : Exit → Act → World → Prop) (pend : List PA) (B : List Res) (fuel : Nat) (l : List Nat) (s : S) : Prop :=
 (∀ p ∈ pend, p.Ok r P E ops Q s.n) → (idx pend).Nodup → (pend.map (·.d)).Nodup → TrN r P E ops Q pend B fuel l s
theorem TrM.start1 {p : PA} (f : Nat) (h1 : p.Ok r P E ops Q n) (hf : Nat.ble 1 f = true) (h : TrM r P E ops Q [p] B (f - 1) l ⟨n, fr, D, M, L⟩) : TrA r P E ops Q B f l ⟨n, fr, D, M, L⟩ :=
 have hok : ∀ q ∈ [p], q.Ok r P E ops Q n := by simpa using h1
 TrN.start [p] hok f hf (h hok (by simp [idx]) (by simp))
theorem TrM.start2 {p q : PA} (f : Nat) (h1 : p.Ok r P E ops Q n) (h2 : q.Ok r P E ops Q n) (hn : nodupB [p.i, q.i] = true) (hd : nodupB [p.d, q.d] = true) (hf : Nat.ble 2 f = true) (h : TrM r P E ops Q [p, q] B (f - 2) l ⟨n, fr, D, M, L⟩) : TrA r P E ops Q B f l ⟨n, fr, D, M, L⟩ :=
 have hok : ∀ x ∈ [p, q], x.Ok r P E ops Q n := by simpa using ⟨h1, h2⟩
 TrN.start [p, q] hok f hf (h hok (nodupB_spec hn) (nodupB_spec hd))
theorem TrM.take (i : Nat) {d : Nat} {oi : Oper} {v : Value} (hsel : Region.noSelect ops = true) (hi : ops[i]? = some oi) (hc : allSub (fun T _ => chk ops (T ++ l) i) (idx pend) [] [] = true) (hQ : ∀ c a w, Q (.panic c) (a.put oi.dst v) w → Q (.panic c) a w)
  (hB : ∀ r ∈ B, r ∈ L) (hg : oi.guard = none) (hy : Stab P fr M B oi v) (hd : oi.dst = some d) (hn : Nat.blt d n = true)
  (h : TrM r P E ops Q pend B fuel (i :: l) ⟨n, (d, v) :: fr, D, M, L⟩) : TrM r P E ops Q pend B (fuel + 1) l ⟨n, fr, D, M, L⟩ :=
 fun a b c => TrN.take i hsel hi hc hQ hB hg hy hd hn (h a b c)
theorem TrM.takeg (i : Nat) {d j t : Nat} {b c : Bool} {oi : Oper} {v : Value} (hsel : Region.noSelect ops = true) (hi : ops[i]? = some oi) (hc : allSub (fun T _ => chk ops (T ++ l) i) (idx pend) [] [] = true) (hQ : ∀ c a w, Q (.panic c) (a.put oi.dst v) w → Q (.panic c) a w)
  (hB : ∀ r ∈ B, r ∈ L) (hg : oi.guard = some (j, b)) (hj : (ops[j]?).bind (·.dst) = some t) (hl : look fr t = some (.bool c)) (hcb : c = b) (hy : Stab P fr M B oi v) (hd : oi.dst = some d) (hn : Nat.blt d n = true)
  (h : TrM r P E ops Q pend B fuel (i :: l) ⟨n, (d, v) :: fr, D, M, L⟩) : TrM r P E ops Q pend B (fuel + 1) l ⟨n, fr, D, M, L⟩ :=
 fun x y z => TrN.takeg i hsel hi hc hQ hB hg hj hl hcb hy hd hn (h x y z)
theorem TrM.takeu (i : Nat) {d j t : Nat} {b c : Bool} {oi : Oper} (hsel : Region.noSelect ops = true) (hi : ops[i]? = some oi) (hc : allSub (fun T _ => chk ops (T ++ l) i) (idx pend) [] [] = true) (hQ : ∀ c a w, Q (.panic c) (a.put oi.dst undef) w → Q (.panic c) a w)
  (hB : ∀ r ∈ B, r ∈ L) (hg : oi.guard = some (j, b)) (hj : (ops[j]?).bind (·.dst) = some t) (hl : look fr t = some (.bool c)) (hcb : (c == b) = false) (hd : oi.dst = some d) (hn : Nat.blt d n = true)
  (h : TrM r P E ops Q pend B fuel (i :: l) ⟨n, (d, undef) :: fr, D, M, L⟩) : TrM r P E ops Q pend B (fuel + 1) l ⟨n, fr, D, M, L⟩ :=
 fun x y z => TrN.takeu i hsel hi hc hQ hB hg hj hl hcb hd hn (h x y z)
def After (r : Option Nat) (P : Program) (E : World) (ops : Array Oper) (Q : Exit → Act → World → Prop) (pend : List PA) (B : List Res) (fuel : Nat) (l : List Nat) (n : Nat) (M : Mem) (Y : Fr) (X : List Res) (s : S) : Prop :=
 ∃ fr' L', App Y fr' s.fr ∧ App X L' s.L ∧ s.n = n ∧ Mem.le M s.M ∧ (∀ r ∈ B, r ∈ L') ∧ TrM r P E ops Q pend B fuel l ⟨n, fr', s.D, s.M, L'⟩
theorem TrM.eff (i : Nat) {oi : Oper} {f : Fr → Fr} {g : List Res → List Res} (hi : ops[i]? = some oi) (ho : onlyN ops (idx pend) l [i] = true) (hg : oi.guard = none ∨ ∃ j t b, oi.guard = some (j, b) ∧ (ops[j]?).bind (·.dst) = some t ∧ look fr t = some (.bool b)) (hp : PendOk fr pend)
  (hB : ∀ r ∈ B, r ∈ L) (hf : AppF fr f) (hL : AppF L g)
  (h : ∀ Y X, Exec r P E Q ⟨n, f Y, D, M, g X⟩ oi (After r P E ops Q pend B fuel (i :: l) n M Y X)) : TrM r P E ops Q pend B (fuel + 1) l ⟨n, fr, D, M, L⟩ :=
 fun hok hn hd => TrN.effs [i] hn hd ho hp.fresh hp.needs hok hB fun j hj => by
  have : j = i := by simpa using hj
  subst this
  refine ⟨oi, hi, hg, fun Y X => ?_⟩
  rw [hf.eq, hL.eq]
  intro a w hs
  refine Oper.wpIn_mono ?_ (h Y X a w hs)
  rintro a' w' ⟨s', h1, fr', L', h2, h3, h4, h5, h6, h7⟩
  refine ⟨s', h1, fr', L', h2, h3, h5, h6, ?_⟩
  rw [h4]
  exact h7 hok hn hd
def settleB (ops : Array Oper) (i : Nat) (pend l : List Nat) : Bool := allSub (fun T U => T.contains i || ((Region.ready .any ops (marks ops.size (T ++ l))).all (fun j => U.contains j) && !(Region.ready .any ops (marks ops.size (T ++ l))).isEmpty)) pend [] []
theorem TrM.settle {p : PA} {ps : List PA} (ho : settleB ops p.i (idx (p :: ps)) l = true) (hp : PendOk fr (p :: ps)) (hB : ∀ r ∈ B, r ∈ L)
  (h : ∀ b, TrM r P E ops Q ps B fuel (p.i :: l) ⟨n, (p.d, p.v b) :: fr, D, M, p.R b :: L⟩) : TrM r P E ops Q (p :: ps) B fuel l ⟨n, fr, D, M, L⟩ :=
 fun hok hn hd => TrN.settle hn hd ho hp.fresh hp.needs hok hB fun b => h b (fun q hq => hok q (List.mem_cons_of_mem _ hq)) (List.nodup_cons.1 hn).2 (List.nodup_cons.1 hd).2
theorem TrM.fin {s : S} (h : TrA r P E ops Q B fuel l s) : TrM r P E ops Q [] B fuel l s := fun _ _ _ t b => by
 simpa [todo, idx, yOf, xOf] using h
theorem Upd.app {L L' : List Res} {x x' : Res} (h : Upd L x x' L') (X : List Res) : Upd (L ++ X) x x' (L' ++ X) := by
 induction h with
 | here => exact .here
 | there _ ih => exact .there ih
theorem TrM.box_own {L' : List Res} {b e : Nat} (sz N : Nat) {cs : List Value} (hL : Upd L (Bf.box b e cs) (ownS e sz (some ⟨b, 0, none⟩) N N cs) L') (hl : cs.length = N * sz) (h1 : ∀ u ∈ cs, u.oneCell' = true) (hN : N ≤ maxLen)
  (h : TrM r P E ops Q pend B fuel l ⟨n, fr, D, M, L'⟩) : TrM r P E ops Q pend B fuel l ⟨n, fr, D, M, L⟩ := fun hok hn hd t c =>
 TrA.via (fun _ k => Tr.box_own sz N (hL.app _) hl h1 hN k) (h hok hn hd t c)
theorem TrM.publish {L' : List Res} {x : Res} (hd : Del L x L') (k : ∀ M', Mem.le M M' → x.ok M' → TrM r P E ops Q pend B fuel l ⟨n, fr, D, M', L'⟩) : TrM r P E ops Q pend B fuel l ⟨n, fr, D, M, L⟩ := fun hok hn hds t c a w hs => by
 obtain ⟨M', h1, h2, h3, _⟩ := (hs.own.perm (L' := x :: (L' ++ xOf pend t c)) (hd.perm.append_right _)).publish
 exact AnyI.weaken (fun w hk => ⟨h2.trans hk.mem, hk.res⟩) (k M' h2 h3 hok hn hds t c a w ⟨hs.fits, h1⟩)
end
end Bf

