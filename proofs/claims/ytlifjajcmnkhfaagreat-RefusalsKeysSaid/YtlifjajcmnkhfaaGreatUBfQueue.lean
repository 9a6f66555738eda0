/-
 A queue: a slice that the walk owns, of which the head is cut off and to which is appended.
 Conditions: none; plain laws over any program.
-/
import Derived.Test.YtlifjajcmnkhfaaGreatUBfLend
namespace Bf
open Go
def ownQ (e : Nat) (A : Option Addr) (n c : Nat) (xs : List Value) : Res :=
 ⟨(A.map (·.block)).toList, fun h => xs.length = n ∧ (∀ u ∈ xs, u.oneCell' = true) ∧ n ≤ c ∧ c ≤ maxLen ∧ ∃ g off cur, A = some ⟨g, off, none⟩ ∧ h g = some (.cells cur e (0, 0)) ∧ (∀ j u, xs[j]? = some u → cur[off + j]? = some u) ∧ (0 < c → off + c ≤ cur.size),
 fun h h' he ⟨h1, h2, h3, h4, g, off, cur, k1, k2, k3⟩ => ⟨h1, h2, h3, h4, g, off, cur, k1, by rw [← he g (by simp [k1])]; exact k2, k3⟩⟩
theorem ownQ_of_box {e b : Nat} {v : Value} {h : Mem} (h1 : v.oneCell' = true) (hb : (box b e [v]).ok h) : (ownQ e (some ⟨b, 0, none⟩) 1 1 [v]).ok h :=
 ⟨rfl, by simpa using h1, Nat.le_refl _, by simp [maxLen], b, 0, _, rfl, hb, fun j u hj => by simpa using hj, fun _ => by simp⟩
theorem ownQ_of_own {e n c : Nat} {A : Option Addr} {xs : List Value} {h : Mem} (hn : 0 < n) (hb : (ownS e 1 A n c xs).ok h) : (ownQ e A n c xs).ok h := by
 obtain ⟨h1, h2, h3⟩ := hb
 rcases h3 with ⟨_, rfl, _⟩ | ⟨g, cur, rfl, k2, k3, k4, k5, k6⟩
 ·omega
 ·refine ⟨by omega, h2, k3, k4, g, 0, cur, rfl, k2, fun j u hj => ?_, fun _ => by omega⟩
  rw [← k6, List.getElem?_take] at hj
  split at hj
  ·simpa using hj
  ·cases hj
theorem ownQ_tail {e n c : Nat} {A : Option Addr} {x : Value} {xs : List Value} {h : Mem} (hb : (ownQ e A (n + 1) c (x :: xs)).ok h) : (ownQ e (if c = 1 then A else A.map (·.add (1 * 1))) n (c - 1) xs).ok h := by
 obtain ⟨h1, h2, h3, h4, g, off, cur, rfl, k2, k3, k4⟩ := hb
 have hl : xs.length = n := by simpa using h1
 have hone : ∀ u ∈ xs, u.oneCell' = true := fun u hu => h2 u (by simp [hu])
 split
 ·rename_i hc
  subst hc
  have : n = 0 := by omega
  subst this
  have hnil : xs = [] := List.eq_nil_of_length_eq_zero hl
  subst hnil
  exact ⟨rfl, by simp, by omega, by simp [maxLen], g, off, cur, rfl, k2, by simp, fun h => by omega⟩
 ·rename_i hc
  refine ⟨hl, hone, by omega, by omega, g, off + 1, cur, by simp [Addr.add], k2, fun j u hj => ?_, fun _ => by have := k4 (by omega); omega⟩
  have := k3 (j + 1) u (by simpa using hj)
  rw [show off + 1 + j = off + (j + 1) by omega]
  exact this
section
variable {P : Program} (w : World)
theorem run_append_room_off (t ty e : TypeId) (i : TypeInfo) (ht : P.underlying t = some (.slice e)) (hi : P.info? e = some i)
  (g off sLen sCap : Nat) (cur : Array Value) (hg : w.heap[g]? = some (.cells cur e (0, 0)))
  (a : Addr) (m c : Nat) (news : List Value) (hl : news.length = m * i.size) (hnews : ∀ j u, news[j]? = some u → w.cell? (a.add j) = some u) (h1 : ∀ u ∈ news, u.oneCell' = true)
  (hroom : sLen + m ≤ sCap) (hfit : off + sLen * i.size + news.length ≤ cur.size) :
  (Builtin.append_ #[t, t] ty #[.slice (some ⟨g, off, none⟩) sLen sCap, .slice (some a) m c]).run P w =
   .ok (.slice (some ⟨g, off, none⟩) (sLen + m) sCap) (w.setRow g (cur.toList.take (off + sLen * i.size) ++ news ++ cur.toList.drop (off + sLen * i.size + news.length)).toArray) := by
 have hf := run_firstCells_some (P := P) w i.size m a m c news hl hnews
 have hst := run_storeCells_at P g (off + sLen * i.size) e news 0 cur w hg (by simpa using hfit) h1
 simp only [Nat.add_zero] at hst
 have hadd : (⟨g, off, none⟩ : Addr).add (sLen * i.size) = ⟨g, off + sLen * i.size, none⟩ := Addr.add_lit ..
 simp [Builtin.append_, run_underlying ht, Go.sizeOf, typeInfo, hi, Builtin.lenOf, hroom, hf, hadd, hst]
end
section
variable {r : Option Nat} {P : Program} {E : World} {Q : Exit → Act → World → Prop} {n : Nat} {fr : Fr} {D : List Deferred} {M : Mem} {L L' : List Res} {K : S → Prop} {X : Act → World → Prop}
variable {d : Nat} {ty : TypeId} {pos : String} {aft : Array Edge} {g : Option (Nat × Bool)}
theorem Tr.toQ {x y : Res} (hL : Del L x L') (hok : ∀ h, x.ok h → y.ok h) (hb : y.blks = x.blks) (k : Tr E ⟨n, fr, D, M, y :: L'⟩ X) : Tr E ⟨n, fr, D, M, L⟩ X := fun a w hs => by
 refine k a w ⟨hs.fits, (hs.own.perm hL.perm).conv (fun h z hz => ?_) (by simp [hb])⟩
 rcases List.mem_cons.1 hz with rfl | hz
 ·exact hok _ (h x (by simp))
 ·exact h z (by simp [hz])
theorem Tr.queue_some {e m c : Nat} (A : Option Addr) {xs : List Value} (hL : Has L (ownQ e A m c xs)) (k : A.isSome = true → Tr E ⟨n, fr, D, M, L⟩ X) : Tr E ⟨n, fr, D, M, L⟩ X := fun a w hs => by
 obtain ⟨_, _, _, _, g, off, cur, rfl, _⟩ := hs.own.res _ hL.mem
 exact k rfl a w hs
theorem ownQ_blks (e n c m d : Nat) (A : Option Addr) (k : Nat) (xs ys : List Value) : (ownQ e (if c = 1 then A else A.map (·.add k)) n d xs).blks = (ownQ e A m c ys).blks := by
 split
 ·rfl
 ·cases A with
  | none => rfl
  | some a => simp [ownQ, Addr.add]; split <;> rfl
theorem Stab.loadQ {t e : TypeId} {i : TyI} {x : Operand} {A : Option Addr} {m c : Nat} {v : Value} {xs : List Value} (hx : ev fr x = some (.pointer (some ((A.getD default).add (0 * 1))))) (hT : HasTy P t i) (ha : TypeDesc.agg i.desc = false) (hL : Has L (ownQ e A m c (v :: xs))) :
  Stab P fr M L ⟨some d, .load t x, ty, pos, aft, g⟩ v := by
 intro n D a' w hf hk
 obtain ⟨h1, h2, h3, h4, b, off, cur, rfl, k2, k3, k4⟩ := hk.res _ hL.mem
 have hc : w.cell? ⟨b, off, none⟩ = some v := by
  have hb : (Bf.box b e cur.toList).ok (hp w) := by show hp w b = _; simpa using k2
  rw [box_cell hb]
  simpa using k3 0 v rfl
 have hx' : ev fr x = some (.pointer (some ⟨b, off, none⟩)) := by
  rw [hx]
  show some (Value.pointer (some (Addr.add ⟨b, off, none⟩ (0 * 1)))) = _
  rw [Nat.zero_mul, Addr.add_lit, Nat.add_zero]
 simp [execOp, Instr.loadAt, Instr.sureAddr, hf.ev hx', loadVar_scalar hT ha hc]
theorem Exec.appendQ {t e : TypeId} {i ei : TyI} {by_ : Nat} {x y : Operand} {A : Option Addr} {N c b0 t0 cc : Nat} {xs : List Value} {v : Value} (hx : ev fr x = some (.slice A N c)) (hy : ev fr y = some (.slice (some ⟨b0, 0, none⟩) 1 cc))
  (hT : HasTy P t i) (hd : i.desc = .slice e) (hE : HasTy P e ei) (hsz : szOf ei = some 1) (hbb : byOf ei = some by_) (hz : ei.zero.cells.size = 1) (hL : Del L (ownQ e A N c xs) L')
  (hs : Has L' (Bf.box b0 t0 [v])) (h1 : v.oneCell' = true) (hb : (N + 1) * by_ ≤ 140737488355328) (h63 : N + 1 ≤ 9223372036854775807) (hn : Nat.blt d n = true)
  (k : ∀ A' c', c' ≤ 9223372036854775807 → K ⟨n, (d, .slice A' (N + 1) c') :: fr, D, M, ownQ e A' (N + 1) c' (xs ++ [v]) :: L'⟩) :
  Exec r P E Q ⟨n, fr, D, M, L⟩ ⟨some d, .call { callee := .builtin .append, args := #[x, y], argTypes := #[t, t] }, ty, pos, aft, g⟩ K := by
 by_cases hroom : N + 1 ≤ c
 ·have hsz' := szOf_eq hsz
  exact Exec.of_run (R := fun u M' L'' => ∃ A' c', c' ≤ 9223372036854775807 ∧ u = .slice A' (N + 1) c' ∧ M' = M ∧ L'' = ownQ e A' (N + 1) c' (xs ++ [v]) :: L') rfl hn
   (fun a w hh => by
    obtain ⟨_, j, hj, hjs, hjb, hjz⟩ := hE
    have hu := hT.1
    rw [hd] at hu
    have hperm := hh.own.perm hL.perm
    obtain ⟨q1, q2, q3, q4, gb, off, cur, rfl, k2, k3, k4⟩ := hperm.res _ (List.mem_cons_self ..)
    have hk4 := k4 (by omega)
    have hcell : ∀ j u, [v][j]? = some u → w.cell? ((⟨b0, 0, none⟩ : Addr).add j) = some u := fun j u hj => by
     rw [Addr.add_lit, Nat.zero_add, box_cell (hperm.res (Bf.box b0 t0 [v]) (by simp [hs.mem]))]; exact hj
    have hsize : j.size = 1 := by rw [hjs]; exact hsz'
    have hrun := run_append_room_off (P := P) w t ty e j hu hj gb off N c cur k2 ⟨b0, 0, none⟩ 1 cc [v] (by simp [hsize]) hcell (by simpa using h1) hroom (by rw [hsize]; simp; omega)
    rw [hsize, Nat.mul_one] at hrun
    have hcs : Own E M (Bf.box gb e cur.toList :: L') w := hperm.conv (fun h z hz => by
     rcases List.mem_cons.1 hz with rfl | hz
     ·show hp w gb = _
      simpa using k2
     ·exact h z (by simp [hz])) (by simp [ownQ, Bf.box, pt])
    have hset := hcs.setRow (cs' := cur.toList.take (off + N) ++ [v] ++ cur.toList.drop (off + N + [v].length)) Upd.here
    refine ⟨_, _, M, _, ?_, hset.conv (fun h z hz => ?_) (by simp [ownQ, Bf.box, pt]), some ⟨gb, off, none⟩, c, by simpa [maxLen] using q4, rfl, rfl, rfl⟩
    ·simp only [execOp, resolve, invoke, builtin, Sem.run_bind, Sem.run_pure, Result.andThen_ok, List.map_toArray, List.map_cons, List.map_nil, hh.fits.ev hx, hh.fits.ev hy, hrun]
    ·rcases List.mem_cons.1 hz with rfl | hz
     ·have hb := h (Bf.box gb e (cur.toList.take (off + N) ++ [v] ++ cur.toList.drop (off + N + [v].length))) (by simp)
      refine ⟨by simp [q1], fun u hu => ?_, hroom, q4, gb, off, _, rfl, hb, fun j u hju => ?_, fun _ => ?_⟩
      ·rcases List.mem_append.1 hu with hu | hu
       ·exact q2 u hu
       ·simp at hu; rw [hu]; exact h1
      ·have hlen : (cur.toList.take (off + N)).length = off + N := by simp; omega
       by_cases hjn : j < N
       ·rw [List.getElem?_append_left (by omega)] at hju
        have := k3 j u hju
        simp only [List.getElem?_toArray]
        rw [List.append_assoc, List.getElem?_append_left (by omega), List.getElem?_take, if_pos (by omega)]
        simpa using this
       ·have hjl := (List.getElem?_eq_some_iff.1 hju).1
        simp at hjl
        have hjN : j = N := by omega
        subst hjN
        rw [List.getElem?_append_right (by omega), q1, Nat.sub_self] at hju
        simp only [List.getElem?_toArray]
        rw [List.append_assoc, List.getElem?_append_right (by omega), hlen, Nat.sub_self]
        simpa using hju
      ·simp; omega
     ·exact h z (by simp [hz]))
   (by rintro _ _ _ ⟨A', c', h, rfl, rfl, rfl⟩; exact k A' c' h)
 ·intro a w hst
  have hperm := hst.own.perm hL.perm
  obtain ⟨q1, q2, q3, q4, gb, off, cur, rfl, k2, k3, k4⟩ := hperm.res _ (List.mem_cons_self ..)
  have hcs : S.holds E ⟨n, fr, D, M, Bf.box gb e cur.toList :: L'⟩ a w := ⟨hst.fits, hperm.conv (fun h z hz => by
   rcases List.mem_cons.1 hz with rfl | hz
   ·show hp w gb = _
    simpa using k2
   ·exact h z (by simp [hz])) (by simp [ownQ, Bf.box, pt])⟩
  have hsrc : Src M (Bf.box gb e cur.toList :: L') (some ⟨gb, off, none⟩) N xs := .inr fun w hk => ⟨_, rfl, fun j u hj => by
   rw [Addr.add_lit, box_cell (hk.res (Bf.box gb e cur.toList) (by simp))]
   simpa using k3 j u hj⟩
  have hex := Exec.appendGrow (r := r) (P := P) (E := E) (Q := Q) (D := D) (M := M) (n := n) (ty := ty) (pos := pos) (aft := aft) (g := g) (d := d) (L := Bf.box gb e cur.toList :: L') (sz := 1) (xs := xs) (news := [v])
   (K := fun s' => ∃ A' c', c' ≤ 9223372036854775807 ∧ s' = ⟨n, (d, .slice A' (N + 1) c') :: fr, D, M, ownS e 1 A' (N + 1) c' (xs ++ [v]) :: Bf.box gb e cur.toList :: L'⟩) hx hy hT hd hE hsz hbb hz rfl (.inl rfl) (by omega) q2 hsrc (by omega) (by decide)
   (Src.box (Has.there hs)) rfl (by simpa using h1) hb h63 hn (fun A' c' hc' => ⟨A', c', hc', rfl⟩)
  refine Oper.wpIn_mono ?_ (hex a w hcs)
  rintro a' w' ⟨s', h2, A', c', hc', rfl⟩
  have hq : Own E M (ownQ e A' (N + 1) c' (xs ++ [v]) :: Bf.box gb e cur.toList :: L') w' := h2.own.conv (fun h z hz => by
   rcases List.mem_cons.1 hz with rfl | hz
   ·exact ownQ_of_own (by omega) (h (ownS e 1 A' (N + 1) c' (xs ++ [v])) (by simp))
   ·exact h z (List.mem_cons_of_mem _ hz)) (by simp [ownQ, ownS])
  have hq2 := (hq.perm (List.Perm.swap _ _ _)).drop
  exact ⟨⟨n, (d, .slice A' (N + 1) c') :: fr, D, M, ownQ e A' (N + 1) c' (xs ++ [v]) :: L'⟩, ⟨h2.fits, hq2⟩, k A' c' hc'⟩
end
end Bf

