/-
 What a walk owns may be lent to a function that only reads: for the call it counts as immutable, behind it it is owned again. And many blocks as one part.
 Conditions: none; plain laws over any program.
-/
import Derived.Test.YtlifjajcmnkhfaaGreatUBfCall
import Derived.Test.YtlifjajcmnkhfaaGreatUBfMem
import Derived.Test.YtlifjajcmnkhfaaGreatUBfNum
namespace Bf
open Go
theorem Own.lend1 {E : World} {M : Mem} {F : List Res} {r : Res} {w : World} (h : Own E M (r :: F) w) :
  ∃ M', Own E M' F w ∧ Mem.le M M' ∧ r.ok M' ∧ (∀ b ∈ r.blks, ∃ o, M' b = some o) ∧ ∀ G w', Own E M' G w' → Own E M (r :: G) w' := by
 classical
 have hmem : ∀ b ∈ r.blks, ∃ o, hp w b = some o := fun b hb => by
  have := h.lt r (by simp) b hb
  exact ⟨w.heap[b], by show w.heap[b]? = _; simp [this]⟩
 have hsome : ∀ b ∈ r.blks, ∃ o, (if b ∈ r.blks then hp w b else M b) = some o := fun b hb => by
  obtain ⟨o, ho⟩ := hmem b hb
  exact ⟨o, by rw [if_pos hb]; exact ho⟩
 have hle : ∀ b o, M b = some o → (if b ∈ r.blks then hp w b else M b) = some o := fun b o hb => by
  split
  ·rename_i hbr
   rw [h.out r (by simp) b hbr] at hb; cases hb
  ·exact hb
 have hndr : r.blks.Nodup := by
  have := h.nd
  simp only [List.flatMap_cons, List.nodup_append] at this
  exact this.1
 refine ⟨fun b => if b ∈ r.blks then hp w b else M b, ⟨h.os, h.tape, h.output, ?_, fun x hx => h.res x (by simp [hx]), fun x hx => h.lt x (by simp [hx]), ?_, h.drop.nd⟩, hle, ?_, hsome, ?_⟩
 ·intro b o hb
  dsimp only at hb
  split at hb
  ·exact hb
  ·exact h.mem b o hb
 ·intro x hx b hbx
  show (if b ∈ r.blks then hp w b else M b) = none
  rw [if_neg]
  ·exact h.out x (by simp [hx]) b hbx
  ·intro hbr
   have := h.nd
   simp only [List.flatMap_cons, List.nodup_append, List.mem_flatMap] at this
   exact this.2.2 b hbr b ⟨x, hx, hbx⟩ rfl
 ·refine r.loc (hp w) _ (fun b hb => ?_) (h.res r (by simp))
  show _ = if b ∈ r.blks then hp w b else M b
  rw [if_pos hb]
 ·intro G w' h'
  have heq : ∀ b ∈ r.blks, hp w' b = hp w b := fun b hb => by
   obtain ⟨o, ho⟩ := hmem b hb
   have := h'.mem b o (by show (if b ∈ r.blks then hp w b else M b) = some o; rw [if_pos hb]; exact ho)
   rw [this, ho]
  refine ⟨h'.os, h'.tape, h'.output, fun b o hb => h'.mem b o (hle b o hb), fun x hx => ?_, fun x hx b hb => ?_, fun x hx b hb => ?_, ?_⟩
  ·rcases List.mem_cons.1 hx with rfl | hx
   ·exact x.loc (hp w) _ (fun b hb => (heq b hb).symm) (h.res x (by simp))
   ·exact h'.res x hx
  ·rcases List.mem_cons.1 hx with rfl | hx
   ·obtain ⟨o, ho⟩ := hmem b hb
    exact hp_lt (w := w') (by rw [heq b hb]; exact ho)
   ·exact h'.lt x hx b hb
  ·rcases List.mem_cons.1 hx with rfl | hx
   ·exact h.out x (by simp) b hb
   ·have := h'.out x hx b hb
    cases hm : M b with
    | none => rfl
    | some o => rw [show (if b ∈ r.blks then hp w b else M b) = some o from hle b o hm] at this; cases this
  ·simp only [List.flatMap_cons, List.nodup_append]
   refine ⟨hndr, h'.nd, fun b hb c hc e => ?_⟩
   subst e
   obtain ⟨x, hx, hbx⟩ := List.mem_flatMap.1 hc
   have h1 := h'.out x hx b hbx
   obtain ⟨o, ho⟩ := hsome b hb
   rw [show (if b ∈ r.blks then hp w b else M b) = none from h1] at ho
   cases ho
theorem Own.lend {E : World} {F : List Res} {w : World} : ∀ {rs : List Res} {M : Mem}, Own E M (rs ++ F) w →
  ∃ M', Own E M' F w ∧ Mem.le M M' ∧ (∀ r ∈ rs, r.ok M') ∧ ∀ G w', Own E M' G w' → Own E M (rs ++ G) w'
 | [], M, h => ⟨M, h, Mem.le.refl _, by simp, fun _ _ h => h⟩
 | r :: rs, M, h => by
  obtain ⟨M1, h1, h2, h3, h5, h4⟩ := Own.lend1 (F := rs ++ F) h
  obtain ⟨M2, g1, g2, g3, g4⟩ := Own.lend h1
  refine ⟨M2, g1, h2.trans g2, fun x hx => ?_, fun G w' hw => h4 _ w' (g4 G w' hw)⟩
  rcases List.mem_cons.1 hx with rfl | hx
  ·refine x.loc M1 M2 (fun b hb => ?_) h3
   obtain ⟨o, ho⟩ := h5 b hb
   rw [ho, g2 b o ho]
  ·exact g3 x hx
theorem Fn.lend {P : Program} {f : FuncId} {args : List Value} {M : Mem} {rs : List Res} {R : Value → Prop} (hc : CallOk P f)
  (h : ∀ M', Mem.le M M' → (∀ r ∈ rs, r.ok M') → Fn0 P f args M' fun v M'' => R v ∧ M' = M'') : Fn P f args M rs fun v M' A' => A' = rs ∧ M = M' ∧ R v :=
 ⟨hc, fun E F w hw => by
  obtain ⟨M', h1, h2, h3, h4⟩ := hw.lend
  refine ((h M' h2 h3).2 E F w h1).mono ?_
  rintro e w' ⟨v, M'', A', rfl, g1, g2, rfl, g3, rfl⟩
  exact ⟨v, M, rs, rfl, Mem.le.refl _, h4 _ w' g2, rfl, rfl, g3⟩⟩
theorem Fn.lendA {P : Program} {f : FuncId} {args : List Value} {M : Mem} {rs : List Res} {R : Value → List Res → Prop} (hc : CallOk P f)
  (h : ∀ M', Mem.le M M' → (∀ r ∈ rs, r.ok M') → Fn P f args M' [] fun v M'' A' => R v A' ∧ M' = M'') : Fn P f args M rs fun v M' A' => ∃ A1, A' = rs ++ A1 ∧ M = M' ∧ R v A1 :=
 ⟨hc, fun E F w hw => by
  obtain ⟨M', h1, h2, h3, h4⟩ := hw.lend
  refine ((h M' h2 h3).2 E F w h1).mono ?_
  rintro e w' ⟨v, M'', A', rfl, g1, g2, g3, rfl⟩
  exact ⟨v, M, rs ++ A', rfl, Mem.le.refl _, by rw [List.append_assoc]; exact h4 _ w' g2, A', rfl, rfl, g3⟩⟩
def many (l : List Res) : Res :=
 ⟨l.flatMap (·.blks), fun h => ∀ r ∈ l, r.ok h, fun h h' he hk r hr => r.loc h h' (fun b hb => he b (List.mem_flatMap.2 ⟨r, hr, hb⟩)) (hk r hr)⟩
theorem Own.conv {E : World} {M : Mem} {L L' : List Res} {w : World} (h : Own E M L w) (hres : (∀ r ∈ L, r.ok (hp w)) → ∀ r ∈ L', r.ok (hp w)) (hb : (L'.flatMap (·.blks)).Perm (L.flatMap (·.blks))) : Own E M L' w := by
 have hin : ∀ r ∈ L', ∀ b ∈ r.blks, ∃ r' ∈ L, b ∈ r'.blks := fun r hr b hbr => by
  have := hb.subset (List.mem_flatMap.2 ⟨r, hr, hbr⟩)
  obtain ⟨r', h1, h2⟩ := List.mem_flatMap.1 this
  exact ⟨r', h1, h2⟩
 exact ⟨h.os, h.tape, h.output, h.mem, hres h.res, fun r hr b hbr => by
  obtain ⟨r', h1, h2⟩ := hin r hr b hbr
  exact h.lt r' h1 b h2, fun r hr b hbr => by
  obtain ⟨r', h1, h2⟩ := hin r hr b hbr
  exact h.out r' h1 b h2, hb.nodup_iff.2 h.nd⟩
theorem eraseIdx_perm {α : Type} : ∀ {l : List α} {i : Nat} {x : α}, l[i]? = some x → (x :: l.eraseIdx i).Perm l
 | [], _, _, h => by simp at h
 | y :: l, 0, x, h => by simp at h; subst h; exact List.Perm.refl _
 | y :: l, i + 1, x, h => by
  have := eraseIdx_perm (l := l) (i := i) (x := x) (by simpa using h)
  rw [List.eraseIdx_cons_succ]
  exact (List.Perm.swap _ _ _).trans (this.cons y)
section
variable {E : World} {n : Nat} {fr : Fr} {D : List Deferred} {M : Mem} {L L' : List Res} {X : Act → World → Prop}
theorem Tr.own_some {e sz m c : Nat} (A : Option Addr) {xs : List Value} (hL : Has L (ownS e sz A m c xs)) (hm : 0 < m) (k : A.isSome = true → Tr E ⟨n, fr, D, M, L⟩ X) : Tr E ⟨n, fr, D, M, L⟩ X := fun a w hs => by
 obtain ⟨_, _, h3⟩ := hs.own.res _ hL.mem
 rcases h3 with ⟨_, rfl, _⟩ | ⟨g, cur, rfl, _⟩
 ·omega
 ·exact k rfl a w hs
theorem Tr.reorder (hp : L'.Perm L) (k : Tr E ⟨n, fr, D, M, L'⟩ X) : Tr E ⟨n, fr, D, M, L⟩ X := fun a w hs => k a w ⟨hs.fits, hs.own.perm hp⟩
theorem Tr.front {x : Res} (hL : Del L x L') (k : Tr E ⟨n, fr, D, M, x :: L'⟩ X) : Tr E ⟨n, fr, D, M, L⟩ X := fun a w hs => k a w ⟨hs.fits, hs.own.perm hL.perm⟩
theorem Tr.many_out {i : Nat} {r : Res} {l : List Res} (hL : Del L (many l) L') (hi : l[i]? = some r) (k : Tr E ⟨n, fr, D, M, r :: many (l.eraseIdx i) :: L'⟩ X) : Tr E ⟨n, fr, D, M, L⟩ X := fun a w hs => by
 refine k a w ⟨hs.fits, (hs.own.perm hL.perm).conv (fun h x hx => ?_) ?_⟩
 ·have h0 := h (many l) (by simp)
  rcases List.mem_cons.1 hx with rfl | hx
  ·exact h0 x (List.mem_of_getElem? hi)
  ·rcases List.mem_cons.1 hx with rfl | hx
   ·exact fun y hy => h0 y (List.mem_of_mem_eraseIdx hy)
   ·exact h x (by simp [hx])
 ·have := ((eraseIdx_perm hi).flatMap_right (fun r : Res => r.blks)).append_right (L'.flatMap (·.blks))
  simpa [many] using this
theorem Tr.many_in {i : Nat} {r r' : Res} {l : List Res} (hi : l[i]? = some r) (k : Tr E ⟨n, fr, D, M, many (l.set i r') :: L⟩ X) : Tr E ⟨n, fr, D, M, r' :: many (l.eraseIdx i) :: L⟩ X := fun a w hs => by
 obtain ⟨hlt, hx⟩ := List.getElem?_eq_some_iff.1 hi
 have hset : (l.set i r')[i]? = some r' := List.getElem?_set_self hlt
 have her : (l.set i r').eraseIdx i = l.eraseIdx i := List.eraseIdx_set_eq
 refine k a w ⟨hs.fits, hs.own.conv (fun h x hx => ?_) ?_⟩
 ·rcases List.mem_cons.1 hx with rfl | hx
  ·intro y hy
   have hp := (eraseIdx_perm hset).mem_iff.2 hy
   rw [her] at hp
   rcases List.mem_cons.1 hp with rfl | hp
   ·exact h y (by simp)
   ·exact h (many (l.eraseIdx i)) (by simp) y hp
  ·exact h x (by simp [hx])
 ·have := ((eraseIdx_perm hset).flatMap_right (fun r : Res => r.blks)).append_right (L.flatMap (·.blks))
  rw [her] at this
  simpa [many] using this.symm
theorem Tr.many_add {r : Res} {l : List Res} (k : Tr E ⟨n, fr, D, M, many (l ++ [r]) :: L⟩ X) : Tr E ⟨n, fr, D, M, r :: many l :: L⟩ X := fun a w hs => by
 refine k a w ⟨hs.fits, hs.own.conv (fun h x hx => ?_) ?_⟩
 ·rcases List.mem_cons.1 hx with rfl | hx
  ·intro y hy
   rcases List.mem_append.1 hy with hy | hy
   ·exact h (many l) (by simp) y hy
   ·simp at hy; subst hy; exact h y (by simp)
  ·exact h x (by simp [hx])
 ·simp only [List.flatMap_cons, many, List.flatMap_append, List.flatMap_nil, List.append_nil]
  rw [← List.append_assoc]
  exact (List.perm_append_comm).append_right _
theorem Tr.many_new (k : Tr E ⟨n, fr, D, M, many [] :: L⟩ X) : Tr E ⟨n, fr, D, M, L⟩ X := fun a w hs =>
 k a w ⟨hs.fits, hs.own.conv (fun h r hr => by
  rcases List.mem_cons.1 hr with rfl | hr
  ·exact fun x hx => by cases hx
  ·exact h r hr) (by simp [many])⟩
end
section
variable {r : Option Nat} {P : Program} {E : World} {Q : Exit → Act → World → Prop} {n : Nat} {fr : Fr} {D : List Deferred} {M : Mem} {L L' : List Res} {K : S → Prop}
variable {d : Nat} {ty : TypeId} {pos : String} {aft : Array Edge} {g : Option (Nat × Bool)}
theorem Exec.storeO {t e : TypeId} {i : TyI} {x y : Operand} {A : Option Addr} {m c j : Nat} {xs : List Value} {v : Value} (hx : ev fr x = some (.pointer (some ((A.getD default).add (j * 1))))) (hy : ev fr y = some v) (hT : HasTy P t i) (hsz : i.size = 1) (h1 : v.oneCell' = true)
  (hL : Upd L (ownS e 1 A m c xs) (ownS e 1 A m c (xs.set j v)) L') (hj : j < m) (k : K ⟨n, fr, D, M, L'⟩) : Exec r P E Q ⟨n, fr, D, M, L⟩ ⟨none, .store t x y, ty, pos, aft, g⟩ K := fun a w hs => by
 have hok := hs.own.res _ hL.mem
 obtain ⟨l1, l2, l3⟩ := hok
 rcases l3 with ⟨_, rfl, _⟩ | ⟨b, cur, rfl, k2, k3, k4, k5, k6⟩
 ·omega
 obtain ⟨B, C, rfl, rfl⟩ := hL.split
 have hcur : (xs.set j v) = (cur.toList.set j v).take (m * 1) := by
  rw [← k6, List.take_set]
 have hadd : ((some (⟨b, 0, none⟩ : Addr)).getD default).add (j * 1) = ⟨b, j, none⟩ := by
  show Addr.add ⟨b, 0, none⟩ (j * 1) = _
  rw [Nat.mul_one]; simp [Addr.add]
  exact fun h => h.symm
 rw [hadd] at hx
 have hs' : S.holds E ⟨n, fr, D, M, B ++ Bf.box b e cur.toList :: C⟩ a w := ⟨hs.fits, hs.own.conv (fun h y hy => by
  rcases List.mem_append.1 hy with hy | hy
  ·exact h y (by simp [hy])
  ·rcases List.mem_cons.1 hy with rfl | hy
   ·show hp w b = _
    simpa using k2
   ·exact h y (by simp [hy])) (by simp [ownS, Bf.box, pt])⟩
 have hu : ∀ (B : List Res), Upd (B ++ Bf.box b e cur.toList :: C) (Bf.box b e cur.toList) (Bf.box b e (cur.toList.set j v)) (B ++ Bf.box b e (cur.toList.set j v) :: C) := fun B => by
  induction B with
  | nil => exact .here
  | cons _ _ ih => exact .there ih
 have hex := Exec.storeS (r := r) (P := P) (E := E) (Q := Q) (D := D) (M := M) (n := n) (ty := ty) (pos := pos) (aft := aft) (g := g) (K := fun s' => s' = ⟨n, fr, D, M, B ++ Bf.box b e (cur.toList.set j v) :: C⟩) hx hy hT hsz h1 (hu B) (by simp; omega) rfl
 refine Oper.wpIn_mono ?_ (hex a w hs')
 rintro a' w' ⟨s', h2, rfl⟩
 refine ⟨⟨n, fr, D, M, B ++ ownS e 1 (some ⟨b, 0, none⟩) m c (xs.set j v) :: C⟩, ⟨h2.fits, h2.own.conv (fun h y hy => ?_) (by simp [ownS, Bf.box, pt])⟩, k⟩
 rcases List.mem_append.1 hy with hy | hy
 ·exact h y (by simp [hy])
 ·rcases List.mem_cons.1 hy with rfl | hy
  ·have hb : hp w' b = some (.cells (cur.toList.set j v).toArray e (0, 0)) := h (Bf.box b e (cur.toList.set j v)) (by simp)
   refine ⟨by rw [List.length_set]; exact l1, fun u hu => ?_, .inr ⟨b, _, rfl, hb, k3, k4, by simpa using k5, hcur.symm⟩⟩
   rcases List.mem_or_eq_of_mem_set hu with hu | rfl
   ·exact l2 u hu
   ·exact h1
  ·exact h y (by simp [hy])
theorem ownS_cell {e m c j : Nat} {A : Option Addr} {xs : List Value} {v : Value} {w : World} (hok : (ownS e 1 A m c xs).ok (hp w)) (hv : xs[j]? = some v) : w.cell? ((A.getD default).add (j * 1)) = some v := by
 obtain ⟨l1, l2, l3⟩ := hok
 have hj := (List.getElem?_eq_some_iff.1 hv).1
 rcases l3 with ⟨_, rfl, _⟩ | ⟨b, cur, rfl, k2, k3, k4, k5, k6⟩
 ·omega
 have hadd : ((some (⟨b, 0, none⟩ : Addr)).getD default).add (j * 1) = ⟨b, j, none⟩ := by
  show Addr.add ⟨b, 0, none⟩ (j * 1) = _
  rw [Nat.mul_one]; simp [Addr.add]
  exact fun h => h.symm
 rw [hadd]
 have : (Bf.box b e cur.toList).ok (hp w) := by
  show hp w b = _
  simpa using k2
 rw [box_cell this]
 rw [← k6, List.getElem?_take] at hv
 split at hv
 ·exact hv
 ·cases hv
theorem Stab.loadO {t e : TypeId} {i : TyI} {x : Operand} {A : Option Addr} {m c j : Nat} {xs : List Value} {v : Value} (hx : ev fr x = some (.pointer (some ((A.getD default).add (j * 1))))) (hT : HasTy P t i) (ha : TypeDesc.agg i.desc = false) (hL : Has L (ownS e 1 A m c xs)) (hv : xs[j]? = some v) :
  Stab P fr M L ⟨some d, .load t x, ty, pos, aft, g⟩ v := by
 intro n D a' w hf hk
 have hc := ownS_cell (hk.res _ hL.mem) hv
 generalize (A.getD default).add (j * 1) = ad at hx hc
 simp [execOp, Instr.loadAt, Instr.sureAddr, hf.ev hx, loadVar_scalar hT ha hc]
end
section
variable {P : Program} {fr : Fr} {M : Mem} {L : List Res} {d : Nat} {ty : TypeId} {pos : String} {aft : Array Edge} {g : Option (Nat × Bool)}
theorem Stab.indexArrB {t e : TypeId} {i ei : TyI} {x y : Operand} {b off : Nat} {len : Nat} {k : IntKind} {m : Int} (hx : ev fr x = some (.pointer (some ⟨b, off, none⟩))) (hy : ev fr y = some (.int k m))
  (hT : HasTy P t i) (hd : i.desc = .array len e) (hE : HasTy P e ei) (hsz : szOf ei = some 1) (h0 : 0 ≤ m) (h1 : m < len) :
  Stab P fr M L ⟨some d, .indexAddr t x y, ty, pos, aft, g⟩ (.pointer (some ⟨b, off + m.toNat, none⟩)) := by
 have := Stab.indexArr (P := P) (M := M) (L := L) (d := d) (ty := ty) (pos := pos) (aft := aft) (g := g) hx hy hT hd hE hsz h0 h1
 simpa [Addr.add_lit] using this
end
theorem zeros0_app (z xs : List Value) : zerosL z 0 ++ xs = xs := rfl
end Bf

