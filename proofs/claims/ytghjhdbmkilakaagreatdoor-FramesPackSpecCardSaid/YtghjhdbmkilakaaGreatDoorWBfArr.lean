/-
  Arrays: sliced whole, compared; capacity; append of new zeros.
  Conditions: none; plain laws over any program.
-/
import Derived.Test.YtghjhdbmkilakaaGreatDoorWBfByte
import Derived.DeepKeys
import Derived.Lib.AppendZeros
namespace Bf
open Go
section
variable {P : Program}
theorem run_eqItems_ints {e : TypeId} {k : IntKind} (he : P.underlying e = some (.int k)) (dd : Nat) (w : World) (xs ys : List Int) : ∀ (is : List Nat), (∀ i ∈ is, i < xs.length ∧ i < ys.length) →
    (Op.eqItems (dd + 1) e 1 (xs.map (Value.int k)).toArray (ys.map (Value.int k)).toArray is).run P w = .ok (is.all fun i => decide (xs[i]? = ys[i]?)) w
  | [], _ => by simp [Op.eqItems]
  | i :: is, h => by
    obtain ⟨h1, h2⟩ := h i (by simp)
    have ih := run_eqItems_ints he dd w xs ys is (fun j hj => h j (by simp [hj]))
    have ha : (part e (xs.map (Value.int k)).toArray (i * 1)).run P w = .ok (.int k xs[i]) w := by
      simp [part, run_isAgg he, TypeDesc.agg, h1]
    have hb : (part e (ys.map (Value.int k)).toArray (i * 1)).run P w = .ok (.int k ys[i]) w := by
      simp [part, run_isAgg he, TypeDesc.agg, h2]
    simp only [Op.eqItems, Sem.run_bind, ha, hb, Result.andThen_ok, run_equalIn_int w dd e k k xs[i] ys[i] he, List.all_cons]
    by_cases hx : xs[i] = ys[i]
    · simp [hx, h1, h2, ih]
    · simp [hx, h1, h2]
theorem all_range_eq {α : Type} [DecidableEq α] {xs ys : List α} (h : xs.length = ys.length) : ((List.range xs.length).all fun i => decide (xs[i]? = ys[i]?)) = decide (xs = ys) := by
  by_cases he : xs = ys
  · subst he; simp
  · rw [decide_eq_false he]
    rw [List.all_eq_false]
    refine Classical.byContradiction fun hno => he ?_
    apply List.ext_getElem? fun i => ?_
    by_cases hi : i < xs.length
    · refine Classical.byContradiction fun hne => hno ⟨i, by simpa using hi, by simpa using hne⟩
    · rw [List.getElem?_eq_none (by omega), List.getElem?_eq_none (by omega)]
variable {fr : Fr} {M : Mem} {L : List Res} {d : Nat} {ty : TypeId} {pos : String} {aft : Array Edge} {g : Option (Nat × Bool)}
theorem run_arreq {t e : TypeId} {k : IntKind} {xs ys : List Int} {n : Nat} {j : TypeInfo} (hu : P.underlying t = some (.array n e)) (he : P.underlying e = some (.int k)) (hj : P.info? e = some j) (hs : j.size = 1) (hx : xs.length = n) (hy : ys.length = n) (w : World) :
    (Op.equalIn 10000 t (.agg (xs.map (Value.int k)).toArray) (.agg (ys.map (Value.int k)).toArray)).run P w = .ok (decide (xs = ys)) w := by
  have h := run_equalIn_array w 9999 (xs.map (Value.int k)).toArray (ys.map (Value.int k)).toArray hu hj
  rw [show (10000 : Nat) = 9999 + 1 from rfl, h]
  have hc : P.cellsOf e = 1 := by simp [Program.cellsOf, hj, hs]
  rw [hc, run_eqItems_ints he 9998 w xs ys (List.range n) (fun i hi => by simp at hi; omega), ← hx, all_range_eq (by omega)]
theorem byteV_ints (l : List UInt8) : byteV l = (l.map fun b => (b.toNat : Int)).map (Value.int .u8) := by simp [byteV]
theorem map_toNat_inj {l m : List UInt8} : (l.map fun b => (b.toNat : Int)) = (m.map fun b => (b.toNat : Int)) ↔ l = m := by
  constructor
  · intro h
    exact List.map_inj_right (f := fun b : UInt8 => (b.toNat : Int)) (fun a b hab => UInt8.toNat_inj.1 (by have h' : (a.toNat : Int) = b.toNat := hab; omega)) |>.1 h
  · rintro rfl; rfl
theorem Stab.arrne {t u e : TypeId} {i ei : TyI} {x y : Operand} {n : Nat} {l m : List UInt8} (hx : ev fr x = some (.agg (byteV l).toArray)) (hy : ev fr y = some (.agg (byteV m).toArray)) (hT : HasTy P t i) (hd : i.desc = .array n e)
    (hE : HasTy P e ei) (hed : ei.desc = .int .u8) (hes : szOf ei = some 1) (hg : P.eqGuardType P.depth t = false) (hl : l.length = n) (hm : m.length = n) : Stab P fr M L ⟨some d, .binOp .neq t x y u, ty, pos, aft, g⟩ (.bool (decide (¬ l = m))) := by
  intro n' D ac w hf _
  have hu := hT.1
  rw [hd] at hu
  have he := hE.1
  rw [hed] at he
  obtain ⟨_, j, hj, hjs, _, _⟩ := hE
  rw [szOf_eq hes] at hjs
  have h := run_arreq (P := P) hu he hj hjs (xs := l.map fun b => (b.toNat : Int)) (ys := m.map fun b => (b.toNat : Int)) (by simpa using hl) (by simpa using hm) w
  rw [← byteV_ints, ← byteV_ints] at h
  have e : decide ((l.map fun b => (b.toNat : Int)) = (m.map fun b => (b.toNat : Int))) = decide (l = m) := decide_eq_decide.2 map_toNat_inj
  rw [e] at h
  simp only [execOp, hf.ev hx, hf.ev hy, Sem.run_bind, run_eqGuard_agg w .neq t x y _ _ hg, Result.andThen_ok, run_neq_struct, h, Sem.run_pure]
  simp
/-- an array, sliced whole -/
theorem Stab.sliceArr {t e : TypeId} {i ei : TyI} {x : Operand} {n : Nat} {a : Addr} (hx : ev fr x = some (.pointer (some a))) (hT : HasTy P t i) (hd : i.desc = .array n e) (hE : HasTy P e ei) (hn : Nat.blt 0 n = true) :
    Stab P fr M L ⟨some d, .slice t x none none none, ty, pos, aft, g⟩ (.slice (some a) n n) := by
  intro n' D ac w hf _
  have hu := hT.1
  rw [hd] at hu
  have hn' : ¬ n = 0 := by have := Nat.blt_eq.mp hn; omega
  simp only [execOp, hf.ev hx, Option.map_none]
  simp [Instr.sliceAt, run_underlying hu, Instr.sureAddr, Instr.sliceBounds, run_sizeOf hE, hn', Addr.add_zero']
end
section
variable {r : Option Nat} {P : Program} {E : World} {Q : Exit → Act → World → Prop} {s : S} {n : Nat} {fr : Fr} {D : List Deferred} {M : Mem} {L : List Res} {K : S → Prop}
variable {d : Nat} {ty : TypeId} {pos : String} {aft : Array Edge} {g : Option (Nat × Bool)}
theorem Knd.cap {x : Operand} {ts : Array TypeId} (h : Exec r P E Q s ⟨some d, .call { callee := .builtin .cap, args := #[x], argTypes := ts }, ty, pos, aft, g⟩ K) : Exec r P E Q s ⟨some d, .call { callee := .builtin .cap, args := #[x], argTypes := ts }, ty, pos, aft, g⟩ K := h
/-- append onto nothing of new zeros: a new block, with room behind them -/
theorem Exec.appendMake {t tn e : TypeId} {i ni ei : TyI} {x y : Operand} {m : Nat} {k kn : IntKind} {z : Value} (hx : ev fr x = some (.slice none 0 0)) (hy : ev fr y = some (.int k m)) (hT : HasTy P t i) (hd : i.desc = .slice e) (hN : HasTy P tn ni) (hnd : ni.desc = .int kn)
    (hE : HasTy P e ei) (hsz : szOf ei = some 1) (hz : zOf ei = some z) (h1 : z.oneCell' = true) (h0 : 0 < m) (hb : m * ei.bytes ≤ 281474976710656) (h63 : (m : Int) ≤ 9223372036854775807) (hn : Nat.blt d n = true)
    (k' : ∀ b c, m ≤ c → c ≤ 9223372036854775807 → K ⟨n, (d, .slice (some ⟨b, 0, none⟩) m c) :: fr, D, M, Bf.box b e (List.replicate c z) :: L⟩) :
    Exec r P E Q ⟨n, fr, D, M, L⟩ ⟨some d, .call { callee := .builtin .append, args := #[x, y], argTypes := #[t, tn] }, ty, pos, aft, g⟩ K :=
  Exec.of_run (R := fun v M' L'' => ∃ b c, m ≤ c ∧ c ≤ 9223372036854775807 ∧ v = .slice (some ⟨b, 0, none⟩) m c ∧ M' = M ∧ L'' = Bf.box b e (List.replicate c z) :: L) rfl hn
    (fun a w hh => by
      obtain ⟨_, j, hj, hjs, hjb, hjz⟩ := hE
      have hu := hT.1
      rw [hd] at hu
      have hu2 := hN.1
      rw [hnd] at hu2
      rw [szOf_eq hsz] at hjs
      rw [zOf_eq hz] at hjz
      have hrun := Go.Lib.run_append_nil_zeros (P := P) w t tn ty e j z k kn hu hu2 hj hjz m h0 (by omega) h63 (by rw [hjb]; exact hb)
      have hge := grownCap_ge w m 0 e
      have hcm : grownCap w m 0 e ≤ maxLen := grownCap_le_maxLen w m 0 e (by have : maxLen = 9223372036854775807 := rfl; omega)
      have hcells : (Builtin.zeroCells z.cells m ++ Builtin.zeroCells z.cells (grownCap w m 0 e - m)) = (List.replicate (grownCap w m 0 e) z).toArray := by
        have hz1 : ∀ q, Builtin.zeroCells z.cells q = (List.replicate q z).toArray := fun q => by
          rw [cells_one h1]
          apply Array.ext
          · simp [Builtin.zeroCells]
          · intro i h1 h2
            simp [Builtin.zeroCells, Nat.mod_one]
        rw [hz1, hz1, List.append_toArray, List.replicate_append_replicate, Nat.add_sub_cancel' hge]
      refine ⟨_, w.drew.alloc (.cells (List.replicate (grownCap w m 0 e) z).toArray e), M, _, ?_, ?_, w.heap.size, grownCap w m 0 e, hge, by simpa [maxLen] using hcm, rfl, rfl, rfl⟩
      · simp only [execOp, resolve, invoke, builtin, Sem.run_bind, Sem.run_pure, Result.andThen_ok, List.map_toArray, List.map_cons, List.map_nil, hh.fits.ev hx, hh.fits.ev hy, hrun, hcells]
      · exact hh.own.drew.alloc _)
    (by rintro _ _ _ ⟨b, c, h1, h2, rfl, rfl, rfl⟩; exact k' b c h1 h2)
end
theorem AllOne.of : ∀ {l : List Value}, (∀ u ∈ l, u.oneCell' = true) → AllOne l
  | [], _ => .nil
  | _ :: _, h => .cons (h _ (by simp)) (AllOne.of fun u hu => h u (by simp [hu]))
theorem AllOne.bytes (l : List UInt8) : AllOne (byteV l) := AllOne.of (byteV_one l)
end Bf

