/-
 Slices in immutable memory and in owned blocks: literals, append, copy, conversion.
 Conditions: none; plain laws over any program.
-/
import Derived.Test.YtlifjajcmnkhfaaGreatUBfDraw
import Derived.Laws.BytesString
import Derived.Laws.BytesArg
namespace Bf
open Go

structure Row (M : Mem) (A : Option Addr) (n sz : Nat) (cells : List Value) : Prop where
 len : cells.length = n * sz
 one : ∀ u ∈ cells, u.oneCell' = true
 at_ : 0 < n → ∃ a, A = some a ∧ At M a cells
theorem Row.mono {M M' : Mem} {A : Option Addr} {n sz : Nat} {cells : List Value} (h : Row M A n sz cells) (hm : Mem.le M M') : Row M' A n sz cells :=
 ⟨h.len, h.one, fun hn => let ⟨a, h1, h2⟩ := h.at_ hn; ⟨a, h1, h2.mono hm⟩⟩
theorem Row.nil (M : Mem) (A : Option Addr) (sz : Nat) : Row M A 0 sz [] := ⟨by simp, by simp, fun h => absurd h (by omega)⟩
theorem Row.pos {M : Mem} {A : Option Addr} {n sz : Nat} {cells : List Value} (h : Row M A n sz cells) (hn : 0 < n) : A.isSome = true ∧ At M (A.getD default) cells := by
 obtain ⟨a, rfl, h2⟩ := h.at_ hn
 exact ⟨rfl, h2⟩
theorem Row.elem {M : Mem} {A : Option Addr} {n sz : Nat} {cells : List Value} (h : Row M A n sz cells) {i : Nat} (hi : i < n) :
  A.isSome = true ∧ At M ((A.getD default).add (i * sz)) ((cells.drop (i * sz)).take sz) := by
 obtain ⟨h1, h2⟩ := h.pos (by omega)
 exact ⟨h1, (h2.drop _).take _⟩
theorem Row.sub {M : Mem} {A : Option Addr} {n sz c l k : Nat} {cells : List Value} (h : Row M A n sz cells) (hl : l ≤ k) (hk : k ≤ n) (hc : n ≤ c) :
  Row M (if c = l then A else A.map (·.add (l * sz))) (k - l) sz ((cells.drop (l * sz)).take ((k - l) * sz)) := by
 refine ⟨?_, fun u hu => h.one u (List.mem_of_mem_drop (List.mem_of_mem_take hu)), fun hp => ?_⟩
 ·have : l * sz ≤ k * sz := Nat.mul_le_mul_right _ hl
  have : k * sz ≤ n * sz := Nat.mul_le_mul_right _ hk
  rw [List.length_take, List.length_drop, h.len, Nat.sub_mul]
  omega
 ·obtain ⟨a, rfl, h2⟩ := h.at_ (by omega)
  rw [if_neg (by omega)]
  exact ⟨_, rfl, (h2.drop _).take _⟩
theorem Row.take {M : Mem} {A : Option Addr} {n sz k : Nat} {cells : List Value} (h : Row M A n sz cells) (hk : k ≤ n) : Row M A k sz (cells.take (k * sz)) := by
 refine ⟨?_, fun u hu => h.one u (List.mem_of_mem_take hu), fun hp => ?_⟩
 ·have : k * sz ≤ n * sz := Nat.mul_le_mul_right _ hk
  rw [List.length_take, h.len]; omega
 ·obtain ⟨a, rfl, h2⟩ := h.at_ (by omega)
  exact ⟨_, rfl, h2.take _⟩
theorem Row.of_box {M : Mem} {b t n sz : Nat} {cs : List Value} (h : (box b t cs).ok M) (hl : n * sz ≤ cs.length) (h1 : ∀ u ∈ cs.take (n * sz), u.oneCell' = true) :
  Row M (some ⟨b, 0, none⟩) n sz (cs.take (n * sz)) :=
 ⟨by rw [List.length_take]; omega, h1, fun _ => ⟨_, rfl, ⟨rfl, cs.toArray, t, (0, 0), h, fun j u hu => by
  rw [List.getElem?_take] at hu
  split at hu
  ·simpa using hu
  ·cases hu⟩⟩⟩

def ownS (e sz : Nat) (A : Option Addr) (n c : Nat) (xs : List Value) : Res :=
 ⟨(A.map (·.block)).toList, fun h => xs.length = n * sz ∧ (∀ u ∈ xs, u.oneCell' = true) ∧ ((A = none ∧ n = 0 ∧ c = 0) ∨ ∃ g cur, A = some ⟨g, 0, none⟩ ∧ h g = some (.cells cur e (0, 0)) ∧ n ≤ c ∧ c ≤ maxLen ∧ cur.size = c * sz ∧ cur.toList.take (n * sz) = xs),
 fun h h' he ⟨h1, h2, h3⟩ => ⟨h1, h2, h3.imp id fun ⟨g, cur, k1, k2, k3⟩ => ⟨g, cur, k1, by rw [← he g (by simp [k1])]; exact k2, k3⟩⟩⟩
theorem ownS_ownsRow {e sz n c : Nat} {A : Option Addr} {xs : List Value} {w : World} (h : (ownS e sz A n c xs).ok (hp w)) : w.ownsRow 0 e sz (.slice A n c) n xs := by
 obtain ⟨h1, _, h3⟩ := h
 refine ⟨h1, ?_⟩
 rcases h3 with ⟨rfl, rfl, rfl⟩ | ⟨g, cur, rfl, k2, k3, k4, k5, k6⟩
 ·exact .inl ⟨rfl, rfl⟩
 ·exact .inr ⟨g, c, cur, rfl, Nat.zero_le _, k2, k3, k4, k5, k6⟩
theorem ownsRow_ownS {e sz n : Nat} {v : Value} {xs : List Value} {w : World} (h : w.ownsRow 0 e sz v n xs) (h1 : ∀ u ∈ xs, u.oneCell' = true) :
  ∃ A c, v = .slice A n c ∧ (ownS e sz A n c xs).ok (hp w) := by
 obtain ⟨k1, k2⟩ := h
 rcases k2 with ⟨rfl, rfl⟩ | ⟨g, cap, cur, rfl, _, k3, k4, k5, k6, k7⟩
 ·exact ⟨none, 0, rfl, k1, h1, .inl ⟨rfl, rfl, rfl⟩⟩
 ·exact ⟨_, cap, rfl, k1, h1, .inr ⟨g, cur, rfl, k3, k4, k5, k6, k7⟩⟩

def Src (M : Mem) (L : List Res) (A : Option Addr) (m : Nat) (news : List Value) : Prop := m = 0 ∨ ∀ w, KH M L w → ∃ a, A = some a ∧ ∀ j u, news[j]? = some u → w.cell? (a.add j) = some u
theorem Src.row {M : Mem} {L : List Res} {A : Option Addr} {m sz : Nat} {cells : List Value} (h : Row M A m sz cells) : Src M L A m cells := by
 rcases Nat.eq_zero_or_pos m with h0 | h0
 ·exact .inl h0
 ·obtain ⟨a, rfl, h2⟩ := h.at_ h0
  exact .inr fun w hw => ⟨a, rfl, h2.cell hw.mem⟩
theorem Src.box {M : Mem} {L : List Res} {b t m : Nat} {cs : List Value} (h : Has L (Bf.box b t cs)) : Src M L (some ⟨b, 0, none⟩) m cs :=
 .inr fun w hw => ⟨_, rfl, fun j u hj => by rw [Addr.add_lit, Nat.zero_add, box_cell (hw.res _ h.mem)]; exact hj⟩
theorem Src.boxP {M : Mem} {L : List Res} {b off t m : Nat} {cs : List Value} (h : Has L (Bf.box b t cs)) : Src M L (some ⟨b, off, none⟩) m ((cs.drop off).take m) :=
 .inr fun w hw => ⟨_, rfl, fun j u hj => by
  rw [Addr.add_lit, box_cell (hw.res _ h.mem)]
  rw [List.getElem?_take] at hj
  split at hj
  ·rwa [List.getElem?_drop] at hj
  ·cases hj⟩
theorem ownS_cells {e sz n c : Nat} {A : Option Addr} {xs : List Value} {w : World} (h : (ownS e sz A n c xs).ok (hp w)) (hn : 0 < n) : ∃ a, A = some a ∧ ∀ j u, xs[j]? = some u → w.cell? (a.add j) = some u := by
 have ho := ownS_ownsRow h
 rcases h.2.2 with ⟨_, h0, _⟩ | ⟨g, cur, rfl, _⟩
 ·omega
 ·exact ⟨_, rfl, ho.cells (g := g) rfl⟩
theorem Src.own {M : Mem} {L : List Res} {e sz n c : Nat} {A : Option Addr} {xs : List Value} (h : Has L (ownS e sz A n c xs)) : Src M L A n xs := by
 rcases Nat.eq_zero_or_pos n with h0 | h0
 ·exact .inl h0
 ·exact .inr fun w hw => ownS_cells (hw.res _ h.mem) h0

section eff
variable {r : Option Nat} {P : Program} {E : World} {Q : Exit → Act → World → Prop} {n : Nat} {fr : Fr} {D : List Deferred} {M : Mem} {L L' : List Res} {K : S → Prop}
variable {d : Nat} {ty : TypeId} {pos : String} {aft : Array Edge} {g : Option (Nat × Bool)}

theorem Tr.own_nil {X : Act → World → Prop} (e sz : Nat) (h : Tr E ⟨n, fr, D, M, ownS e sz none 0 0 [] :: L⟩ X) : Tr E ⟨n, fr, D, M, L⟩ X := fun a w hs =>
 h a w ⟨hs.fits, hs.own.new ⟨rfl, rfl, rfl⟩ (Nat.le_refl _) (fun _ _ => rfl) ⟨by simp, by simp, .inl ⟨rfl, rfl, rfl⟩⟩ (by simp [ownS]) (by simp [ownS])⟩

theorem run_append_none (w : World) (base : Nat) (t ty e : TypeId) (i : TypeInfo) (size : Nat) (ht : P.underlying t = some (.slice e)) (hi : P.info? e = some i)
  (v : Value) (n : Nat) (xs : List Value) (hown : w.ownsRow base e size v n xs) (c : Nat) : (Builtin.append_ #[t, t] ty #[v, .slice none 0 c]).run P w = .ok v w := by
 rcases hown.2 with ⟨rfl, rfl⟩ | ⟨g, cap, cur, rfl, _, _, hnc, _⟩
 ·simp [Builtin.append_, run_underlying ht, Go.sizeOf, typeInfo, hi, Builtin.lenOf, Builtin.firstCells]
 ·simp [Builtin.append_, run_underlying ht, Go.sizeOf, typeInfo, hi, Builtin.lenOf, Builtin.firstCells, hnc, storeCells]

theorem Exec.append {t e : TypeId} {i ei : TyI} {sz by_ : Nat} {x y : Operand} {A B : Option Addr} {N c m cc : Nat} {xs news : List Value} (hx : ev fr x = some (.slice A N c)) (hy : ev fr y = some (.slice B m cc))
  (hT : HasTy P t i) (hd : i.desc = .slice e) (hE : HasTy P e ei) (hsz : szOf ei = some sz) (hbb : byOf ei = some by_) (hz : ei.zero.cells.size = sz) (hp : Nat.blt 0 sz = true) (hL : Del L (ownS e sz A N c xs) L')
  (hs : Src M L B m news) (hl : news.length = m * sz) (h1 : ∀ u ∈ news, u.oneCell' = true) (hb : (N + m) * by_ ≤ 140737488355328) (h63 : N + m ≤ 9223372036854775807) (hn : Nat.blt d n = true)
  (k : ∀ A' c', c' ≤ 9223372036854775807 → K ⟨n, (d, .slice A' (N + m) c') :: fr, D, M, ownS e sz A' (N + m) c' (xs ++ news) :: L'⟩) :
  Exec r P E Q ⟨n, fr, D, M, L⟩ ⟨some d, .call { callee := .builtin .append, args := #[x, y], argTypes := #[t, t] }, ty, pos, aft, g⟩ K := by
 obtain rfl := szOf_eq hsz
 obtain rfl := byOf_eq hbb
 exact
 Exec.of_run (R := fun v M' L'' => ∃ A' c', c' ≤ 9223372036854775807 ∧ v = .slice A' (N + m) c' ∧ M' = M ∧ L'' = ownS e ei.size A' (N + m) c' (xs ++ news) :: L') rfl hn
  (fun a w hh => by
   obtain ⟨_, j, hj, hjs, hjb, hjz⟩ := hE
   have hu := hT.1
   rw [hd] at hu
   have hpos : 0 < ei.size := Nat.blt_eq.mp hp
   have hperm := hh.own.perm hL.perm
   have hok := hperm.res _ (List.mem_cons_self ..)
   have hrow := ownS_ownsRow hok
   have hxs1 := hok.2.1
   have fin : ∀ v' w', (Builtin.append_ #[t, t] ty #[.slice A N c, .slice B m cc]).run P w = .ok v' w' → w'.ownsRow 0 e ei.size v' (N + m) (xs ++ news) → w.grownBy w' (Value.ownBlock (.slice A N c)) →
     (v'.ownBlock = Value.ownBlock (.slice A N c) ∨ v'.ownBlock = some w.heap.size) →
     ∃ v w' M' L'', (execOp a.eval ⟨some d, .call { callee := .builtin .append, args := #[x, y], argTypes := #[t, t] }, ty, pos, aft, g⟩).run P w = .ok (.value v) w' ∧ Own E M' L'' w' ∧
      ∃ A' c', c' ≤ 9223372036854775807 ∧ v = .slice A' (N + m) c' ∧ M' = M ∧ L'' = ownS e ei.size A' (N + m) c' (xs ++ news) :: L' := by
    intro v' w' hr ho hg hbl
    obtain ⟨A', c', rfl, hok'⟩ := ownsRow_ownS ho (fun u hu => by
     rcases List.mem_append.1 hu with hu | hu
     ·exact hxs1 u hu
     ·exact h1 u hu)
    refine ⟨_, w', M, _, ?_, ?_, A', c', ?_, rfl, rfl, rfl⟩
    ·simp only [execOp, resolve, invoke, builtin, Sem.run_bind, Sem.run_pure, Result.andThen_ok, List.map_toArray, List.map_cons, List.map_nil, hh.fits.ev hx, hh.fits.ev hy, hr]
    ·refine hperm.upd (.here) ⟨hg.os, hg.tape, hg.output⟩ hg.size (fun b hb hlt => hg.block b hlt ?_) hok' (fun b hb => ?_) ?_
     ·intro hbe
      apply hb
      cases A with
      | none => simp [Value.ownBlock] at hbe
      | some a => simp [Value.ownBlock] at hbe; simp [ownS, hbe]
     ·have hlt : b < w'.heap.size := by
       cases A' with
       | none => simp [ownS] at hb
       | some a =>
        simp [ownS] at hb
        subst hb
        exact (ho.lt a.block rfl).2
      refine ⟨hlt, ?_⟩
      cases A' with
      | none => simp [ownS] at hb
      | some a' =>
       simp [ownS] at hb
       subst hb
       rcases hbl with hbl | hbl
       ·left
        cases A with
        | none => simp [Value.ownBlock] at hbl
        | some a => simp [Value.ownBlock] at hbl; simp [ownS, hbl]
       ·right
        simp [Value.ownBlock] at hbl
        omega
     ·cases A' <;> simp [ownS]
    ·rcases hok'.2.2 with ⟨_, _, rfl⟩ | ⟨_, _, _, _, _, h, _⟩
     ·omega
     ·exact h
   rcases Nat.eq_zero_or_pos m with h0 | h0
   ·subst h0
    have hnil : news = [] := List.eq_nil_of_length_eq_zero (by simpa using hl)
    subst hnil
    cases B with
    | none => exact fin _ _ (run_append_none w 0 t ty e j ei.size hu hj _ N xs hrow cc) (by simpa using hrow) (World.grownBy.refl w _) (.inl rfl)
    | some b =>
     obtain ⟨v', w', hr, h2, h3, _, h5⟩ := run_append_own_at (P := P) w 0 t ty e j ei.zero ei.size ei.bytes hu hj hjz hjs hjb hz hpos _ N xs hrow b 0 cc [] (by simp) (by simp) (by simp) (by simpa [maxLen] using h63) hb (Nat.zero_le _)
     exact fin _ _ hr h2 h3 h5
   ·rcases hs with hs | hs
    ·omega
    ·obtain ⟨b, rfl, hc⟩ := hs w hh.own.kh
     obtain ⟨v', w', hr, h2, h3, _, h5⟩ := run_append_own_at (P := P) w 0 t ty e j ei.zero ei.size ei.bytes hu hj hjz hjs hjb hz hpos _ N xs hrow b m cc news hl hc h1 (by simpa [maxLen] using h63) hb (Nat.zero_le _)
     exact fin _ _ hr h2 h3 h5)
  (by rintro _ _ _ ⟨A', c', h, rfl, rfl, rfl⟩; exact k A' c' h)

theorem Exec.appendGrow {t e : TypeId} {i ei : TyI} {sz by_ : Nat} {x y : Operand} {A B : Option Addr} {N c m cc : Nat} {xs news : List Value} (hx : ev fr x = some (.slice A N c)) (hy : ev fr y = some (.slice B m cc))
  (hT : HasTy P t i) (hd : i.desc = .slice e) (hE : HasTy P e ei) (hsz : szOf ei = some sz) (hbb : byOf ei = some by_) (hz : ei.zero.cells.size = sz) (hp : Nat.blt 0 sz = true) (hA : A.isSome = true ∨ (A = none ∧ N = 0 ∧ c = 0)) (hlx : xs.length = N * sz) (hx1 : ∀ u ∈ xs, u.oneCell' = true) (hsx : Src M L A N xs) (hc : c < N + m) (hm : 0 < m)
  (hs : Src M L B m news) (hl : news.length = m * sz) (h1 : ∀ u ∈ news, u.oneCell' = true) (hb : (N + m) * by_ ≤ 140737488355328) (h63 : N + m ≤ 9223372036854775807) (hn : Nat.blt d n = true)
  (k : ∀ A' c', c' ≤ 9223372036854775807 → K ⟨n, (d, .slice A' (N + m) c') :: fr, D, M, ownS e sz A' (N + m) c' (xs ++ news) :: L⟩) :
  Exec r P E Q ⟨n, fr, D, M, L⟩ ⟨some d, .call { callee := .builtin .append, args := #[x, y], argTypes := #[t, t] }, ty, pos, aft, g⟩ K := by
 obtain rfl := szOf_eq hsz
 obtain rfl := byOf_eq hbb
 exact
 Exec.of_run (R := fun v M' L'' => ∃ A' c', c' ≤ 9223372036854775807 ∧ v = .slice A' (N + m) c' ∧ M' = M ∧ L'' = ownS e ei.size A' (N + m) c' (xs ++ news) :: L) rfl hn
  (fun a w hh => by
   obtain ⟨_, j, hj, hjs, hjb, hjz⟩ := hE
   have hu := hT.1
   rw [hd] at hu
   obtain ⟨b, rfl, hcb⟩ := hs.resolve_left (by omega) w hh.own.kh
   have hlen : (xs ++ news).length = (N + m) * ei.size := by rw [List.length_append, hlx, hl, Nat.add_mul]
   have hge := grownCap_ge w (N + m) c e
   have hcm : grownCap w (N + m) c e ≤ maxLen := grownCap_le_maxLen w (N + m) c e (by simpa [maxLen] using h63)
   have hrun : (Builtin.append_ #[t, t] ty #[.slice A N c, .slice (some b) m cc]).run P w = .ok (.slice (some ⟨w.heap.size, 0, none⟩) (N + m) (grownCap w (N + m) c e))
     (w.drew.alloc (.cells (xs.toArray ++ news.toArray ++ Builtin.zeroCells ei.zero.cells (grownCap w (N + m) c e - (N + m))) e)) := by
    rcases hA with hA | ⟨rfl, rfl, rfl⟩
    ·cases A with
     | none => cases hA
     | some ad =>
      have hcell : ∀ j u, xs[j]? = some u → w.cell? (ad.add j) = some u := by
       rcases hsx with h0 | h
       ·subst h0
        have : xs = [] := List.eq_nil_of_length_eq_zero (by simpa using hlx)
        subst this
        simp
       ·obtain ⟨a', ha, h⟩ := h w hh.own.kh
        cases ha
        exact h
      exact run_append_grow (P := P) w t ty e j ei.zero hu hj hjz ad N c xs (by rw [hjs]; exact hlx) hcell b m cc news (by rw [hjs]; exact hl) hcb hc (by omega) (by rw [hjb]; exact growslice_fits hc hb)
    ·have : xs = [] := List.eq_nil_of_length_eq_zero (by simpa using hlx)
     subst this
     simp only [Nat.zero_add] at hb ⊢
     have := run_append_nil (P := P) w t ty e j ei.zero hu hj hjz b m cc news (by rw [hjs]; exact hl) hcb hm (by omega) (by rw [hjb]; omega)
     simpa using this
   refine ⟨_, w.drew.alloc (.cells (xs.toArray ++ news.toArray ++ Builtin.zeroCells ei.zero.cells (grownCap w (N + m) c e - (N + m))) e), M, _, ?_, ?_, some ⟨w.heap.size, 0, none⟩, grownCap w (N + m) c e, by simpa [maxLen] using hcm, rfl, rfl, rfl⟩
   ·simp only [execOp, resolve, invoke, builtin, Sem.run_bind, Sem.run_pure, Result.andThen_ok, List.map_toArray, List.map_cons, List.map_nil, hh.fits.ev hx, hh.fits.ev hy, hrun]
   ·refine hh.own.new ⟨rfl, rfl, rfl⟩ (by simp) (fun b hb => hp_alloc_old w.drew _ hb) ⟨hlen, ?_, .inr ⟨w.heap.size, _, rfl, hp_alloc_new w.drew _, hge, hcm, ?_, ?_⟩⟩ (fun b hb => ?_) (by simp [ownS])
    ·intro u hu
     rcases List.mem_append.1 hu with hu | hu
     ·exact hx1 u hu
     ·exact h1 u hu
    ·simp only [Array.size_append, List.size_toArray, size_zeroCells, hz, hlx, hl, ← Nat.add_mul]
     congr 1
     omega
    ·simp only [Array.toList_append, List.append_assoc]
     rw [← List.append_assoc, ← hlen]
     exact List.take_left
    ·simp [ownS] at hb
     subst hb
     simp)
  (by rintro _ _ _ ⟨A', c', h, rfl, rfl, rfl⟩; exact k A' c' h)

theorem Tr.box_own {X : Act → World → Prop} {b e : Nat} (sz N : Nat) {cs : List Value} (hL : Upd L (Bf.box b e cs) (ownS e sz (some ⟨b, 0, none⟩) N N cs) L') (hl : cs.length = N * sz) (h1 : ∀ u ∈ cs, u.oneCell' = true) (hN : N ≤ maxLen) (h : Tr E ⟨n, fr, D, M, L'⟩ X) : Tr E ⟨n, fr, D, M, L⟩ X := fun a w hs => by
 refine h a w ⟨hs.fits, hs.own.upd hL ⟨rfl, rfl, rfl⟩ (Nat.le_refl _) (fun _ _ _ => rfl) ⟨hl, h1, .inr ⟨b, cs.toArray, rfl, hs.own.box_at hL.mem, Nat.le_refl _, hN, by simpa using hl, ?_⟩⟩ (fun c hc => ?_) (by simp [ownS])⟩
 ·rw [← hl]; simp
 ·have : c = b := by simpa [ownS] using hc
  subst this
  exact ⟨hs.own.lt _ hL.mem c (by simp [Bf.box, pt]), .inl (by simp [Bf.box, pt])⟩
theorem Row.of_own {M : Mem} {e sz n c : Nat} {A : Option Addr} {xs : List Value} (h : (ownS e sz A n c xs).ok M) : Row M A n sz xs ∧ n ≤ c ∧ (A = none → n = 0) := by
 obtain ⟨h1, h2, h3⟩ := h
 rcases h3 with ⟨rfl, rfl, rfl⟩ | ⟨g, cur, rfl, k2, k3, k4, k5, k6⟩
 ·have : xs = [] := List.eq_nil_of_length_eq_zero (by simpa using h1)
  subst this
  exact ⟨Row.nil _ _ _, Nat.le_refl _, fun _ => rfl⟩
 ·refine ⟨⟨h1, h2, fun _ => ⟨_, rfl, rfl, cur, e, (0, 0), k2, fun j u hj => ?_⟩⟩, k3, fun h => by cases h⟩
  rw [← k6, List.getElem?_take] at hj
  split at hj
  ·simpa using hj
  ·cases hj

def zerosL (z : List Value) : Nat → List Value
 | 0 => []
 | k + 1 => z ++ zerosL z k
theorem zerosL_eq (z : List Value) (hz : 0 < z.length) : ∀ k, ((Array.range (k * z.length)).map (z.toArray[· % z.toArray.size]!)).toList = zerosL z k
 | 0 => by simp [zerosL]
 | k + 1 => by
  have ih := zerosL_eq z hz k
  simp only [Array.toList_map, Array.toList_range, List.size_toArray] at ih ⊢
  rw [zerosL, ← ih, Nat.succ_mul, Nat.add_comm, List.range_add, List.map_append, List.map_map]
  congr 1
  ·apply List.ext_getElem
   ·simp
   ·intro j h1 h2
    simp at h1
    simp [Nat.mod_eq_of_lt h1, h1]
  ·apply List.map_congr_left
   intro j _
   simp
theorem Exec.buildSlice {t e : TypeId} {i ei : TyI} {sz : Nat} {N : Nat} {ps : List (Nat × Operand)} {z cs : List Value} (hT : HasTy P t i) (hd : i.desc = .slice e) (hE : HasTy P e ei) (hsz : szOf ei = some sz) (hz : ei.zero.cells.toList = z) (hzl : z.length = sz) (hp : Nat.blt 0 sz = true)
  (hN : Nat.ble (N * sz) 16777216 = true) (hb : BuildP fr (fun k => some (k * sz, sz)) ps (zerosL z N) cs) (hn : Nat.blt d n = true)
  (k : ∀ b, K ⟨n, (d, .slice (some ⟨b, 0, none⟩) N N) :: fr, D, M, Bf.box b e cs :: L⟩) :
  Exec r P E Q ⟨n, fr, D, M, L⟩ ⟨some d, .buildSlice t N ps.toArray, ty, pos, aft, g⟩ K := by
 obtain rfl := szOf_eq hsz
 exact
 Exec.of_run (R := fun v M' L' => ∃ b, v = .slice (some ⟨b, 0, none⟩) N N ∧ M' = M ∧ L' = Bf.box b e cs :: L) rfl hn
  (fun a w hh => by
   have hu := hT.1
   rw [hd] at hu
   have hpos : 0 < ei.size := Nat.blt_eq.mp hp
   have hN' := Nat.ble_eq.mp hN
   have hf := hb.fill hh.fits
   have hzz : ei.zero.cells = z.toArray := by rw [← hz]
   have hzero := zerosL_eq z (by omega) N
   rw [hzl] at hzero
   have hps : (ps.toArray.map fun (i, x) => (i, a.eval x)).toList = ps.map fun p => (p.1, a.eval p.2) := by simp
   refine ⟨_, _, M, _, ?_, hh.own.alloc _, w.heap.size, rfl, rfl, rfl⟩
   have hz0 : ∀ w : World, (if N * ei.size = 0 then (pure #[] : Sem (Array Value)) else do pure (← zeroValue e).cells).run P w = .ok (if N * ei.size = 0 then #[] else z.toArray) w := by
    intro w
    split
    ·simp
    ·simp [run_zeroValue hE, hzz]
   have harr : (Array.range (N * ei.size)).map ((if N * ei.size = 0 then (#[] : Array Value) else z.toArray)[· % (if N * ei.size = 0 then (#[] : Array Value) else z.toArray).size]!) = (zerosL z N).toArray := by
    apply Array.ext'
    split
    ·rename_i h0
     have : N = 0 := by
      rcases Nat.eq_zero_or_pos N with h | h
      ·exact h
      ·have := Nat.mul_pos h hpos; omega
     subst this
     simp [zerosL]
    ·exact hzero
   simp only [execOp, Instr.buildSlice, Sem.run_bind, run_underlying hu, Result.andThen_ok, run_sizeOf hE, hps]
   rw [if_neg (by omega)]
   by_cases h0 : N * ei.size = 0
   ·rw [if_pos h0] at harr
    rw [if_pos h0]
    simp only [Sem.run_bind, Sem.run_pure, Result.andThen_ok, harr, hf, newRow, run_newObj]
    rfl
   ·rw [if_neg h0] at harr
    rw [if_neg h0]
    simp only [Sem.run_bind, Sem.run_pure, run_zeroValue hE, hzz, Result.andThen_ok, harr, hf, newRow, run_newObj]
    rfl)
  (by rintro _ _ _ ⟨b, rfl, rfl, rfl⟩; exact k b)

def byteV (l : List UInt8) : List Value := l.map fun b => .int .u8 (b.toNat : Int)
theorem byteV_one (l : List UInt8) : ∀ u ∈ byteV l, u.oneCell' = true := by
 intro u hu
 simp only [byteV, List.mem_map] at hu
 obtain ⟨b, _, rfl⟩ := hu
 rfl
@[simp] theorem byteV_length (l : List UInt8) : (byteV l).length = l.length := by simp [byteV]

end eff
end Bf

