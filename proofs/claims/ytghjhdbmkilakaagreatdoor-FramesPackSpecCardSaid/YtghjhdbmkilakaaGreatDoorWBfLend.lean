/-
  What a walk owns may be lent to a function that only reads: for the call it counts as immutable, behind it it is owned again. And many blocks as one part.
  Conditions: none; plain laws over any program.
-/
import Derived.Test.YtghjhdbmkilakaaGreatDoorWBfCall
import Derived.Test.YtghjhdbmkilakaaGreatDoorWBfMem
import Derived.Test.YtghjhdbmkilakaaGreatDoorWBfNum
namespace Bf
open Go
theorem Own.lend1 {E : World} {M : Mem} {F : List Res} {r : Res} {w : World} (h : Own E M (r :: F) w) :
    ∃ M', Own E M' F w ∧ Mem.le M M' ∧ r.ok M' ∧ (∀ b ∈ r.blks, ∃ o, M' b = some o) ∧ ∀ G w', Own E M' G w' → Own E M (r :: G) w' := by
  classical
  have hmem : ∀ b ∈ r.blks, ∃ o, hp w b = some o := fun b hb => by
    have := h.lt r (by simp) b hb
    exact ⟨w.heap[b], by show w.heap[b]? = _; simp [this]⟩
  have hsome : ∀ b ∈ r.blks, ∃ o, (if b ∈ r.blks then hp w b else M b) = some o := fun b hb => by
    obtain ⟨o, ho⟩ := hmem b hb
    exact ⟨o, by rw [if_pos hb]; exact ho⟩
  have hle : ∀ b o, M b = some o → (if b ∈ r.blks then hp w b else M b) = some o := fun b o hb => by
    split
    · rename_i hbr
      rw [h.out r (by simp) b hbr] at hb; cases hb
    · exact hb
  have hndr : r.blks.Nodup := by
    have := h.nd
    simp only [List.flatMap_cons, List.nodup_append] at this
    exact this.1
  refine ⟨fun b => if b ∈ r.blks then hp w b else M b, ⟨h.os, h.tape, h.output, ?_, fun x hx => h.res x (by simp [hx]), fun x hx => h.lt x (by simp [hx]), ?_, h.drop.nd⟩, hle, ?_, hsome, ?_⟩
  · intro b o hb
    dsimp only at hb
    split at hb
    · exact hb
    · exact h.mem b o hb
  · intro x hx b hbx
    show (if b ∈ r.blks then hp w b else M b) = none
    rw [if_neg]
    · exact h.out x (by simp [hx]) b hbx
    · intro hbr
      have := h.nd
      simp only [List.flatMap_cons, List.nodup_append, List.mem_flatMap] at this
      exact this.2.2 b hbr b ⟨x, hx, hbx⟩ rfl
  · refine r.loc (hp w) _ (fun b hb => ?_) (h.res r (by simp))
    show _ = if b ∈ r.blks then hp w b else M b
    rw [if_pos hb]
  · intro G w' h'
    have heq : ∀ b ∈ r.blks, hp w' b = hp w b := fun b hb => by
      obtain ⟨o, ho⟩ := hmem b hb
      have := h'.mem b o (by show (if b ∈ r.blks then hp w b else M b) = some o; rw [if_pos hb]; exact ho)
      rw [this, ho]
    refine ⟨h'.os, h'.tape, h'.output, fun b o hb => h'.mem b o (hle b o hb), fun x hx => ?_, fun x hx b hb => ?_, fun x hx b hb => ?_, ?_⟩
    · rcases List.mem_cons.1 hx with rfl | hx
      · exact x.loc (hp w) _ (fun b hb => (heq b hb).symm) (h.res x (by simp))
      · exact h'.res x hx
    · rcases List.mem_cons.1 hx with rfl | hx
      · obtain ⟨o, ho⟩ := hmem b hb
        exact hp_lt (w := w') (by rw [heq b hb]; exact ho)
      · exact h'.lt x hx b hb
    · rcases List.mem_cons.1 hx with rfl | hx
      · exact h.out x (by simp) b hb
      · have := h'.out x hx b hb
        cases hm : M b with
        | none => rfl
        | some o => rw [show (if b ∈ r.blks then hp w b else M b) = some o from hle b o hm] at this; cases this
    · simp only [List.flatMap_cons, List.nodup_append]
      refine ⟨hndr, h'.nd, fun b hb c hc e => ?_⟩
      subst e
      obtain ⟨x, hx, hbx⟩ := List.mem_flatMap.1 hc
      have h1 := h'.out x hx b hbx
      obtain ⟨o, ho⟩ := hsome b hb
      rw [show (if b ∈ r.blks then hp w b else M b) = none from h1] at ho
      cases ho
theorem Own.lend {E : World} {F : List Res} {w : World} : ∀ {rs : List Res} {M : Mem}, Own E M (rs ++ F) w →
    ∃ M', Own E M' F w ∧ Mem.le M M' ∧ (∀ r ∈ rs, r.ok M') ∧ ∀ G w', Own E M' G w' → Own E M (rs ++ G) w'
  | [], M, h => ⟨M, h, Mem.le.refl _, by simp, fun _ _ h => h⟩
  | r :: rs, M, h => by
    obtain ⟨M1, h1, h2, h3, h5, h4⟩ := Own.lend1 (F := rs ++ F) h
    obtain ⟨M2, g1, g2, g3, g4⟩ := Own.lend h1
    refine ⟨M2, g1, h2.trans g2, fun x hx => ?_, fun G w' hw => h4 _ w' (g4 G w' hw)⟩
    rcases List.mem_cons.1 hx with rfl | hx
    · refine x.loc M1 M2 (fun b hb => ?_) h3
      obtain ⟨o, ho⟩ := h5 b hb
      rw [ho, g2 b o ho]
    · exact g3 x hx
/-- a function that only reads, called with what the walk owns -/
theorem Fn.lend {P : Program} {f : FuncId} {args : List Value} {M : Mem} {rs : List Res} {R : Value → Prop} (hc : CallOk P f)
    (h : ∀ M', Mem.le M M' → (∀ r ∈ rs, r.ok M') → Fn0 P f args M' fun v M'' => R v ∧ M' = M'') : Fn P f args M rs fun v M' A' => A' = rs ∧ M = M' ∧ R v :=
  ⟨hc, fun E F w hw => by
    obtain ⟨M', h1, h2, h3, h4⟩ := hw.lend
    refine ((h M' h2 h3).2 E F w h1).mono ?_
    rintro e w' ⟨v, M'', A', rfl, g1, g2, rfl, g3, rfl⟩
    exact ⟨v, M, rs, rfl, Mem.le.refl _, h4 _ w' g2, rfl, rfl, g3⟩⟩
/-- many parts as one -/
def many (l : List Res) : Res :=
  ⟨l.flatMap (·.blks), fun h => ∀ r ∈ l, r.ok h, fun h h' he hk r hr => r.loc h h' (fun b hb => he b (List.mem_flatMap.2 ⟨r, hr, hb⟩)) (hk r hr)⟩
theorem Own.conv {E : World} {M : Mem} {L L' : List Res} {w : World} (h : Own E M L w) (hres : (∀ r ∈ L, r.ok (hp w)) → ∀ r ∈ L', r.ok (hp w)) (hb : (L'.flatMap (·.blks)).Perm (L.flatMap (·.blks))) : Own E M L' w := by
  have hin : ∀ r ∈ L', ∀ b ∈ r.blks, ∃ r' ∈ L, b ∈ r'.blks := fun r hr b hbr => by
    have := hb.subset (List.mem_flatMap.2 ⟨r, hr, hbr⟩)
    obtain ⟨r', h1, h2⟩ := List.mem_flatMap.1 this
    exact ⟨r', h1, h2⟩
  exact ⟨h.os, h.tape, h.output, h.mem, hres h.res, fun r hr b hbr => by
    obtain ⟨r', h1, h2⟩ := hin r hr b hbr
    exact h.lt r' h1 b h2, fun r hr b hbr => by
    obtain ⟨r', h1, h2⟩ := hin r hr b hbr
    exact h.out r' h1 b h2, hb.nodup_iff.2 h.nd⟩
section
variable {E : World} {n : Nat} {fr : Fr} {D : List Deferred} {M : Mem} {L L' : List Res} {X : Act → World → Prop}
/-- a part comes first -/
theorem Tr.front {x : Res} (hL : Del L x L') (k : Tr E ⟨n, fr, D, M, x :: L'⟩ X) : Tr E ⟨n, fr, D, M, L⟩ X := fun a w hs => k a w ⟨hs.fits, hs.own.perm hL.perm⟩
end
section
variable {r : Option Nat} {P : Program} {E : World} {Q : Exit → Act → World → Prop} {n : Nat} {fr : Fr} {D : List Deferred} {M : Mem} {L L' : List Res} {K : S → Prop}
variable {d : Nat} {ty : TypeId} {pos : String} {aft : Array Edge} {g : Option (Nat × Bool)}
end
section
variable {P : Program} {fr : Fr} {M : Mem} {L : List Res} {d : Nat} {ty : TypeId} {pos : String} {aft : Array Edge} {g : Option (Nat × Bool)}
theorem Stab.indexArrB {t e : TypeId} {i ei : TyI} {x y : Operand} {b off : Nat} {len : Nat} {k : IntKind} {m : Int} (hx : ev fr x = some (.pointer (some ⟨b, off, none⟩))) (hy : ev fr y = some (.int k m))
    (hT : HasTy P t i) (hd : i.desc = .array len e) (hE : HasTy P e ei) (hsz : szOf ei = some 1) (h0 : 0 ≤ m) (h1 : m < len) :
    Stab P fr M L ⟨some d, .indexAddr t x y, ty, pos, aft, g⟩ (.pointer (some ⟨b, off + m.toNat, none⟩)) := by
  have := Stab.indexArr (P := P) (M := M) (L := L) (d := d) (ty := ty) (pos := pos) (aft := aft) (g := g) hx hy hT hd hE hsz h0 h1
  simpa [Addr.add_lit] using this
end
end Bf

