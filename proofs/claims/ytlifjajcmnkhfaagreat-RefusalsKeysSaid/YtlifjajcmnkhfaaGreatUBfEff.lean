/-
 The operations that make or change memory, and calls, as rules of the small logic.
 Conditions: none; plain laws over any program.
-/
import Derived.Test.YtlifjajcmnkhfaaGreatUBfOps
import Derived.Laws.CopyRow
import Derived.Laws.CopyOwn
import Derived.Laws.AppendOwn
import Derived.Laws.MakeOwn
import Derived.Maps.AppendAt
import Derived.Maps.OwnRows
namespace Bf
open Go

def Value.one (v : Value) : Bool := v.oneCell'
theorem cells_one {v : Value} (h : v.oneCell' = true) : v.cells = #[v] := by cases v <;> first | rfl | (simp [Value.oneCell'] at h)

section worlds
variable {E : World} {M : Mem} {L : List Res} {w : World}

theorem hp_alloc_new (w : World) (o : Obj) : hp (w.alloc o) w.heap.size = some o := heap_alloc_new w o
theorem hp_alloc_old (w : World) (o : Obj) {b : Nat} (h : b < w.heap.size) : hp (w.alloc o) b = hp w b := heap_alloc_old w o b h

theorem Own.alloc (h : Own E M L w) (o : Obj) : Own E M (pt w.heap.size o :: L) (w.alloc o) :=
 h.new ⟨rfl, rfl, rfl⟩ (by simp) (fun b hb => hp_alloc_old w o hb) (hp_alloc_new w o) (fun b hb => by simp [pt] at hb; subst hb; simp) (by simp [pt])

theorem Own.drew (h : Own E M L w) : Own E M L w.drew := h.same ⟨rfl, rfl, rfl⟩ rfl

theorem Own.setRow {L' : List Res} {b : Nat} {t : TypeId} {cs cs' : List Value} (h : Own E M L w) (u : Upd L (box b t cs) (box b t cs') L') : Own E M L' (w.setRow b cs'.toArray) := by
 have hb : w.heap[b]? = some (.cells cs.toArray t (0, 0)) := h.res _ u.mem
 refine h.upd u ⟨rfl, rfl, rfl⟩ (by simp [World.setRow]) ?_ ?_ ?_ (by simp [box, pt])
 ·intro c hc _
  simp [box, pt] at hc
  exact setRow_other w b c _ hc
 ·exact setRow_heap w b cs.toArray cs'.toArray t (0, 0) hb
 ·intro c hc
  simp [box, pt] at hc
  subst hc
  have := hp_lt (w := w) hb
  exact ⟨by simpa [World.setRow] using this, .inl (by simp [box, pt])⟩

theorem Own.box_at (h : Own E M L w) {b : Nat} {t : TypeId} {cs : List Value} (hm : box b t cs ∈ L) : w.heap[b]? = some (.cells cs.toArray t (0, 0)) := h.res _ hm
end worlds

section eff
variable {r : Option Nat} {P : Program} {E : World} {Q : Exit → Act → World → Prop} {n : Nat} {fr : Fr} {D : List Deferred} {M : Mem} {L : List Res} {K : S → Prop}
variable {d : Nat} {ty : TypeId} {pos : String} {aft : Array Edge} {g : Option (Nat × Bool)}

theorem Exec.of_run {o : Oper} {R : Value → Mem → List Res → Prop} (hd : o.dst = some d) (hn : Nat.blt d n = true)
  (h : ∀ a w, S.holds E ⟨n, fr, D, M, L⟩ a w → ∃ v w' M' L', (execOp a.eval o).run P w = .ok (.value v) w' ∧ Own E M' L' w' ∧ R v M' L')
  (k : ∀ v M' L', R v M' L' → K ⟨n, (d, v) :: fr, D, M', L'⟩) : Exec r P E Q ⟨n, fr, D, M, L⟩ o K := fun a w hs => by
 obtain ⟨v, w', M', L', hr, ho, hR⟩ := h a w hs
 refine wpIn_of_run hr (fun _ h => by cases h) ?_
 refine ⟨⟨n, (d, v) :: fr, D, M', L'⟩, ⟨?_, ho⟩, k _ _ _ hR⟩
 rw [hd]
 exact hs.fits.put hn _
theorem Exec.of_run0 {o : Oper} {M' : Mem} {L' : List Res} (hd : o.dst = none)
  (h : ∀ a w, S.holds E ⟨n, fr, D, M, L⟩ a w → ∃ w', (execOp a.eval o).run P w = .ok .skip w' ∧ Own E M' L' w')
  (k : K ⟨n, fr, D, M', L'⟩) : Exec r P E Q ⟨n, fr, D, M, L⟩ o K := fun a w hs => by
 obtain ⟨w', hr, ho⟩ := h a w hs
 refine wpIn_of_run hr (fun _ h => by cases h) ?_
 refine ⟨⟨n, fr, D, M', L'⟩, ⟨?_, ho⟩, k⟩
 rw [hd]
 exact hs.fits

theorem Exec.alloc {t : TypeId} {i : TyI} {cs : List Value} (hT : HasTy P t i) (hz : i.zero = .agg cs.toArray) (hn : Nat.blt d n = true)
  (k : ∀ b, K ⟨n, (d, .pointer (some ⟨b, 0, none⟩)) :: fr, D, M, box b t cs :: L⟩) :
  Exec r P E Q ⟨n, fr, D, M, L⟩ ⟨some d, .alloc t, ty, pos, aft, g⟩ K :=
 Exec.of_run (R := fun v M' L' => ∃ b, v = .pointer (some ⟨b, 0, none⟩) ∧ M' = M ∧ L' = box b t cs :: L) rfl hn
  (fun a w hs => ⟨_, _, M, _, by
   simp only [execOp, Instr.alloc, Sem.run_bind, run_zeroValue hT, Result.andThen_ok, newVar, newRow, hz, Value.cells, run_newObj, Sem.run_pure]; rfl, hs.own.alloc _, _, rfl, rfl, rfl⟩)
  (by rintro _ _ _ ⟨b, rfl, rfl, rfl⟩; exact k b)
theorem Exec.alloc1 {t : TypeId} {i : TyI} {z : Value} (hT : HasTy P t i) (hz : i.zero = z) (h1 : z.oneCell' = true) (hn : Nat.blt d n = true)
  (k : ∀ b, K ⟨n, (d, .pointer (some ⟨b, 0, none⟩)) :: fr, D, M, box b t [z] :: L⟩) :
  Exec r P E Q ⟨n, fr, D, M, L⟩ ⟨some d, .alloc t, ty, pos, aft, g⟩ K :=
 Exec.of_run (R := fun v M' L' => ∃ b, v = .pointer (some ⟨b, 0, none⟩) ∧ M' = M ∧ L' = box b t [z] :: L) rfl hn
  (fun a w hs => ⟨_, _, M, _, by
   simp only [execOp, Instr.alloc, Sem.run_bind, run_zeroValue hT, Result.andThen_ok, newVar, newRow, hz, cells_one h1, run_newObj, Sem.run_pure]; rfl, hs.own.alloc _, _, rfl, rfl, rfl⟩)
  (by rintro _ _ _ ⟨b, rfl, rfl, rfl⟩; exact k b)
theorem Exec.box {t : TypeId} {x : Operand} {cs : List Value} (hx : ev fr x = some (.agg cs.toArray)) (hn : Nat.blt d n = true)
  (k : ∀ b, K ⟨n, (d, .pointer (some ⟨b, 0, none⟩)) :: fr, D, M, Bf.box b t cs :: L⟩) :
  Exec r P E Q ⟨n, fr, D, M, L⟩ ⟨some d, .box t x, ty, pos, aft, g⟩ K :=
 Exec.of_run (R := fun v M' L' => ∃ b, v = .pointer (some ⟨b, 0, none⟩) ∧ M' = M ∧ L' = Bf.box b t cs :: L) rfl hn
  (fun a w hs => ⟨_, _, M, _, by
   simp only [execOp, hs.fits.ev hx, Instr.box, newVar, newRow, Value.cells, Sem.run_bind, run_newObj, Sem.run_pure, Result.andThen_ok]; rfl, hs.own.alloc _, _, rfl, rfl, rfl⟩)
  (by rintro _ _ _ ⟨b, rfl, rfl, rfl⟩; exact k b)
theorem Exec.box1 {t : TypeId} {x : Operand} {v : Value} (hx : ev fr x = some v) (h1 : v.oneCell' = true) (hn : Nat.blt d n = true)
  (k : ∀ b, K ⟨n, (d, .pointer (some ⟨b, 0, none⟩)) :: fr, D, M, Bf.box b t [v] :: L⟩) :
  Exec r P E Q ⟨n, fr, D, M, L⟩ ⟨some d, .box t x, ty, pos, aft, g⟩ K :=
 Exec.of_run (R := fun u M' L' => ∃ b, u = .pointer (some ⟨b, 0, none⟩) ∧ M' = M ∧ L' = Bf.box b t [v] :: L) rfl hn
  (fun a w hs => ⟨_, _, M, _, by
   simp only [execOp, hs.fits.ev hx, Instr.box, newVar, newRow, cells_one h1, Sem.run_bind, run_newObj, Sem.run_pure, Result.andThen_ok]; rfl, hs.own.alloc _, _, rfl, rfl, rfl⟩)
  (by rintro _ _ _ ⟨b, rfl, rfl, rfl⟩; exact k b)

theorem run_storeVar {t : TypeId} {i : TyI} (hT : HasTy P t i) {b off : Nat} {t0 : TypeId} {cs vs : List Value} {v : Value} {w : World} (hb : w.heap[b]? = some (.cells cs.toArray t0 (0, 0)))
  (hv : v.cells = vs.toArray) (hs : vs.length = i.size) (hl : off + vs.length ≤ cs.length) (h1 : ∀ v ∈ vs, v.oneCell' = true) :
  (storeVar t ⟨b, off, none⟩ v).run P w = .ok () (w.setRow b (cs.take off ++ vs ++ cs.drop (off + vs.length)).toArray) := by
 have h := run_storeCells_at P b off t0 vs 0 cs.toArray w hb (by simpa using hl) h1
 simp only [Nat.add_zero] at h
 simp [storeVar, run_sizeOf hT, hv, hs, h]
theorem list_set_eq (cs : List Value) (k : Nat) (v : Value) (h : k < cs.length) : cs.take k ++ [v] ++ cs.drop (k + 1) = cs.set k v := by
 rw [List.set_eq_take_append_cons_drop, if_pos h]; simp

theorem Exec.store {t : TypeId} {i : TyI} {x y : Operand} {b off : Nat} {t0 : TypeId} {cs cs' : List Value} {v : Value} {L' : List Res} (hx : ev fr x = some (.pointer (some ⟨b, off, none⟩)))
  (hy : ev fr y = some v) (hT : HasTy P t i) (hs : i.size = 1) (h1 : v.oneCell' = true) (hL : Upd L (Bf.box b t0 cs) (Bf.box b t0 cs') L') (hc : SetL cs off v cs')
  (k : K ⟨n, fr, D, M, L'⟩) : Exec r P E Q ⟨n, fr, D, M, L⟩ ⟨none, .store t x y, ty, pos, aft, g⟩ K :=
 Exec.of_run0 rfl (fun a w hh => by
  obtain ⟨rfl, hlt⟩ := hc.eq
  have hb := hh.own.box_at hL.mem
  have hr := run_storeVar (P := P) hT (v := v) (vs := [v]) (off := off) hb (cells_one h1) (by simp [hs]) (by simp; omega) (by simpa using h1)
  simp only [List.length_singleton] at hr
  rw [list_set_eq _ _ _ hlt] at hr
  refine ⟨_, ?_, hh.own.setRow hL⟩
  simp only [execOp, hh.fits.ev hx, hh.fits.ev hy, Instr.storeAt, Instr.sureAddr, Sem.run_bind, Sem.run_pure, Result.andThen_ok, hr]) k
theorem Exec.storeS {t : TypeId} {i : TyI} {x y : Operand} {b off : Nat} {t0 : TypeId} {cs : List Value} {v : Value} {L' : List Res} (hx : ev fr x = some (.pointer (some ⟨b, off, none⟩)))
  (hy : ev fr y = some v) (hT : HasTy P t i) (hs : i.size = 1) (h1 : v.oneCell' = true) (hL : Upd L (Bf.box b t0 cs) (Bf.box b t0 (cs.set off v)) L') (hlt : off < cs.length)
  (k : K ⟨n, fr, D, M, L'⟩) : Exec r P E Q ⟨n, fr, D, M, L⟩ ⟨none, .store t x y, ty, pos, aft, g⟩ K :=
 Exec.of_run0 rfl (fun a w hh => by
  have hb := hh.own.box_at hL.mem
  have hr := run_storeVar (P := P) hT (v := v) (vs := [v]) (off := off) hb (cells_one h1) (by simp [hs]) (by simp; omega) (by simpa using h1)
  simp only [List.length_singleton] at hr
  rw [list_set_eq _ _ _ hlt] at hr
  refine ⟨_, ?_, hh.own.setRow hL⟩
  simp only [execOp, hh.fits.ev hx, hh.fits.ev hy, Instr.storeAt, Instr.sureAddr, Sem.run_bind, Sem.run_pure, Result.andThen_ok, hr]) k
inductive AllOne : List Value → Prop
 | nil : AllOne []
 | cons {v : Value} {l : List Value} (h : v.oneCell' = true) (t : AllOne l) : AllOne (v :: l)
theorem AllOne.mem {l : List Value} (h : AllOne l) : ∀ v ∈ l, v.oneCell' = true := by
 induction h with
 | nil => simp
 | cons h _ ih => simpa using ⟨h, ih⟩
theorem Exec.storeW {t : TypeId} {i : TyI} {x y : Operand} {b : Nat} {t0 : TypeId} {cs cs' : List Value} {L' : List Res} (hx : ev fr x = some (.pointer (some ⟨b, 0, none⟩)))
  (hy : ev fr y = some (.agg cs'.toArray)) (hT : HasTy P t i) (hL : Upd L (Bf.box b t0 cs) (Bf.box b t0 cs') L') (hs : cs'.length = i.size) (hs2 : cs.length = i.size) (h1 : AllOne cs')
  (k : K ⟨n, fr, D, M, L'⟩) : Exec r P E Q ⟨n, fr, D, M, L⟩ ⟨none, .store t x y, ty, pos, aft, g⟩ K :=
 Exec.of_run0 rfl (fun a w hh => by
  have hb := hh.own.box_at hL.mem
  have hr := run_storeVar (P := P) hT (v := .agg cs'.toArray) (vs := cs') (off := 0) hb rfl hs (by omega) h1.mem
  have e : cs.take 0 ++ cs' ++ cs.drop (0 + cs'.length) = cs' := by
   have : cs.length ≤ 0 + cs'.length := by omega
   simp [show cs'.length = cs.length by omega]
  rw [e] at hr
  refine ⟨_, ?_, hh.own.setRow hL⟩
  simp only [execOp, hh.fits.ev hx, hh.fits.ev hy, Instr.storeAt, Instr.sureAddr, Sem.run_bind, Sem.run_pure, Result.andThen_ok, hr]) k
theorem Exec.make {t e : TypeId} {i ei : TyI} {z : Value} {x y : Operand} {kl kc : IntKind} {l c : Int} (hx : ev fr x = some (.int kl l)) (hy : ev fr y = some (.int kc c))
  (hT : HasTy P t i) (hd : i.desc = .slice e) (hE : HasTy P e ei) (hzz : zOf ei = some z) (hs : ei.size = 1) (h1 : z.oneCell' = true) (h0 : 0 ≤ l) (hlc : l ≤ c) (hb : (ei.bytes : Int) * c ≤ 281474976710656) (h63 : c ≤ 9223372036854775807)
  (hn : Nat.blt d n = true) (k : ∀ b, K ⟨n, (d, .slice (some ⟨b, 0, none⟩) l.toNat c.toNat) :: fr, D, M, Bf.box b e (List.replicate c.toNat z) :: L⟩) :
  Exec r P E Q ⟨n, fr, D, M, L⟩ ⟨some d, .makeSlice t x y, ty, pos, aft, g⟩ K := by
 obtain rfl := zOf_eq hzz
 exact
 Exec.of_run (R := fun v M' L' => ∃ b, v = .slice (some ⟨b, 0, none⟩) l.toNat c.toNat ∧ M' = M ∧ L' = Bf.box b e (List.replicate c.toNat ei.zero) :: L) rfl hn
  (fun a w hh => by
   obtain ⟨_, j, hj, hjs, hjb, hjz⟩ := hE
   have hu := hT.1
   rw [hd] at hu
   have hr := run_make (P := P) w t e j ei.zero hu hj hjz kl kc l c h0 hlc (by rw [hjb]; exact hb) h63
   have hm : madeCells ei.zero.cells (c.toNat * j.size) = (List.replicate c.toNat ei.zero).toArray := by
    rw [hjs, hs, Nat.mul_one, cells_one h1]
    apply Array.ext'
    simp [madeCells, Nat.mod_one, List.map_const']
   rw [hm] at hr
   exact ⟨_, _, M, _, by simp only [execOp, hh.fits.ev hx, hh.fits.ev hy, Sem.run_bind, hr, Result.andThen_ok, Sem.run_pure], hh.own.alloc _, _, rfl, rfl, rfl⟩)
  (by rintro _ _ _ ⟨b, rfl, rfl, rfl⟩; exact k b)

inductive PutL : List Value → Nat → List Value → List Value → Prop
 | nil {l : List Value} {n : Nat} : PutL l n [] l
 | cons {l l1 l2 vs : List Value} {n : Nat} {v : Value} (h : SetL l n v l1) (hr : PutL l1 (n + 1) vs l2) : PutL l n (v :: vs) l2
inductive BuildP (fr : Fr) (places : Nat → Option (Nat × Nat)) : List (Nat × Operand) → List Value → List Value → Prop
 | nil {l : List Value} : BuildP fr places [] l l
 | one {i off : Nat} {x : Operand} {v : Value} {l l1 l2 : List Value} {ps : List (Nat × Operand)} (hp : places i = some (off, 1)) (hx : ev fr x = some v) (hv : v.oneCell' = true) (hs : SetL l off v l1) (h : BuildP fr places ps l1 l2) : BuildP fr places ((i, x) :: ps) l l2
 | many {i off sz : Nat} {x : Operand} {vs : List Value} {l l1 l2 : List Value} {ps : List (Nat × Operand)} (hp : places i = some (off, sz)) (hx : ev fr x = some (.agg vs.toArray)) (hl : vs.length = sz) (h0 : Nat.blt 0 sz = true) (hs : PutL l off vs l1) (h : BuildP fr places ps l1 l2) : BuildP fr places ((i, x) :: ps) l l2

theorem PutL.eq {l l2 vs : List Value} {n : Nat} (h : PutL l n vs l2) : n + vs.length ≤ l.length ∨ vs = [] ∧ l2 = l := by
 induction h with
 | nil => exact .inr ⟨rfl, rfl⟩
 | @cons l l1 l2 vs n v h hr ih =>
  obtain ⟨rfl, hlt⟩ := h.eq
  left
  rcases ih with ih | ⟨rfl, _⟩
  ·simp at ih ⊢; omega
  ·simp; omega
theorem PutL.fold {l l2 vs : List Value} {n : Nat} (h : PutL l n vs l2) : ∀ (off j : Nat), n = off + j → (vs.zipIdx j).foldl (fun cs (p : Value × Nat) => cs.setIfInBounds (off + p.2) p.1) l.toArray = l2.toArray := by
 induction h with
 | nil => intro off j _; rfl
 | @cons l l1 l2 vs n v h hr ih =>
  intro off j hj
  obtain ⟨rfl, hlt⟩ := h.eq
  have := ih off (j + 1) (by omega)
  simp only [List.zipIdx_cons, List.foldl_cons]
  rw [← this]
  congr 1
  apply Array.ext'
  simp [hj]
theorem PutL.len {l l2 vs : List Value} {n : Nat} (h : PutL l n vs l2) : l2.length = l.length := by
 induction h with
 | nil => rfl
 | cons h _ ih => obtain ⟨rfl, _⟩ := h.eq; simpa using ih
theorem SetL.putL {l l1 : List Value} {n : Nat} {v : Value} (h : SetL l n v l1) : PutL l n [v] l1 := .cons h .nil
theorem BuildP.fill {places : Nat → Option (Nat × Nat)} {ps : List (Nat × Operand)} {l l2 : List Value} (h : BuildP fr places ps l l2) {a : Act} (hf : Fits n fr D a) :
  Instr.fill places l.toArray (ps.map fun p => (p.1, a.eval p.2)) = some l2.toArray := by
 have key : ∀ {off : Nat} {vs l l1 : List Value}, PutL l off vs l1 → vs ≠ [] → ¬ (off + vs.length > l.length) := by
  intro off vs l l1 h hne
  rcases h.eq with h | ⟨h, _⟩
  ·omega
  ·exact absurd h hne
 induction h with
 | nil => rfl
 | @one i off x v l l1 l2 ps hp hx hv hs h ih =>
  have hlt := hs.eq.2
  have hfold := hs.putL.fold off 0 (by simp)
  simp only [List.map_cons, Instr.fill, hp, hf.ev hx, cells_one hv]
  simp only [List.size_toArray, List.length_singleton]
  rw [if_neg (by simp; omega), ← ih]
  congr 1
  all_goals (rw [← hfold]; try simp)
 | @many i off sz x vs l l1 l2 ps hp hx hl h0 hs h ih =>
  have hfold := hs.fold off 0 (by simp)
  simp only [List.map_cons, Instr.fill, hp, hf.ev hx, Value.cells]
  have hne : vs ≠ [] := by
   rintro rfl
   have := Nat.blt_eq.mp h0
   simp at hl
   omega
  have := key hs hne
  simp only [List.size_toArray]
  rw [if_neg (by simp [hl] at *; omega), ← ih]
  congr 1
  rw [← hfold]
  simp

def placesOf (tys : List (Nat × TyI)) (fs : Array Field) (k : Nat) : Option (Nat × Nat) :=
 match nthF fs.toList k with
 | some f => (match lookTy tys f.type with | some i => some (f.offset, i.size) | none => none)
 | none => none
where nthF : List Field → Nat → Option Field
 | [], _ => none
 | x :: _, 0 => some x
 | _ :: l, n + 1 => nthF l n
theorem nthF_eq : ∀ (l : List Field) (n : Nat), placesOf.nthF l n = l[n]?
 | [], _ => by simp [placesOf.nthF]
 | _ :: _, 0 => by simp [placesOf.nthF]
 | _ :: l, n + 1 => by simp [placesOf.nthF, nthF_eq l n]
theorem BuildP.mono {p q : Nat → Option (Nat × Nat)} {ps : List (Nat × Operand)} {l l2 : List Value} (h : BuildP fr p ps l l2) (hpq : ∀ k v, p k = some v → q k = some v) : BuildP fr q ps l l2 := by
 induction h with
 | nil => exact .nil
 | one hp hx hv hs _ ih => exact .one (hpq _ _ hp) hx hv hs ih
 | many hp hx hl h0 hs _ ih => exact .many (hpq _ _ hp) hx hl h0 hs ih

theorem run_places {tys : List (Nat × TyI)} (ht : TysOk P tys) (w : World) : ∀ (fs : List Field), (∀ f ∈ fs, (lookTy tys f.type).isSome = true) →
  (fs.mapM (m := Sem) fun f => do pure (f.offset, ← Go.sizeOf f.type)).run P w = .ok (fs.map fun f => (f.offset, ((lookTy tys f.type).map (·.size)).getD 0)) w
 | [], _ => by simp
 | f :: fs, h => by
  have h0 := h f (by simp)
  obtain ⟨i, hi⟩ := Option.isSome_iff_exists.1 h0
  have ih := run_places ht w fs (fun x hx => h x (by simp [hx]))
  simp only [List.mapM_cons, Sem.run_bind, run_sizeOf (ht.get hi), Result.andThen_ok, Sem.run_pure, ih, List.map_cons, hi, Option.map_some, Option.getD_some]

theorem Stab.build {tys : List (Nat × TyI)} (ht : TysOk P tys) {t : TypeId} {i : TyI} {fs : Array Field} {ps : List (Nat × Operand)} {z cs : List Value} (hT : lookTy tys t = some i) (hd : i.desc = .struct fs)
  (hz : i.zero = .agg z.toArray) (hfs : fs.toList.all (fun f => (lookTy tys f.type).isSome) = true) (hb : BuildP fr (placesOf tys fs) ps z cs) :
  Stab P fr M L ⟨some d, .build t ps.toArray, ty, pos, aft, g⟩ (.agg cs.toArray) := by
 intro n D a w hf _
 have hT' := ht.get hT
 have hu := hT'.1
 rw [hd] at hu
 have hp := run_places (P := P) ht w fs.toList (fun f hf => List.all_eq_true.1 hfs f hf)
 have hpa : (fs.mapM (m := Sem) fun f => do pure (f.offset, ← Go.sizeOf f.type)).run P w = .ok (fs.map fun f => (f.offset, ((lookTy tys f.type).map (·.size)).getD 0)) w := by
  rw [Array.mapM_eq_mapM_toList, Sem.run_map, hp]
  simp only [Result.andThen]
  congr 1
  apply Array.ext'
  simp
 have hb' := (hb.mono (q := ((fs.map fun f => (f.offset, ((lookTy tys f.type).map (·.size)).getD 0))[·]?)) (fun k v hk => by
  unfold placesOf at hk
  rw [nthF_eq] at hk
  simp only [Array.getElem?_map, Option.map_eq_some_iff]
  cases hf : fs.toList[k]? with
  | none => rw [hf] at hk; cases hk
  | some f =>
   rw [hf] at hk
   dsimp only at hk
   cases hl : lookTy tys f.type with
   | none => rw [hl] at hk; cases hk
   | some i => rw [hl] at hk; simp only [Option.some.injEq] at hk; subst hk; exact ⟨f, by simpa using hf, by simp [hl]⟩)).fill hf
 have hps : (ps.toArray.map fun (i, x) => (i, a.eval x)).toList = ps.map fun p => (p.1, a.eval p.2) := by simp
 simp only [execOp, Instr.build, Sem.run_bind, run_zeroValue hT', Result.andThen_ok, run_underlying hu, hz, Value.cells, hpa, hps, hb', Sem.run_pure]
end eff
end Bf

