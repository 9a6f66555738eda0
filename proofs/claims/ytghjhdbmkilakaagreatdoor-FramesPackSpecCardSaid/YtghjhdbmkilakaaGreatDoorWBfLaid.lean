/-
  The row of a law whose program has a listed variable that is a table of numbers: what is left to show is the walk, from a memory that holds the table.
  Conditions: none; plain laws over any program.
-/
import Derived.Test.YtghjhdbmkilakaaGreatDoorWBfRow
import Derived.LaidMore
import Derived.LaidLaws
import Derived.LaidHandle
import Derived.OpenShut
import Derived.MakeChecks
import Derived.JoinedOf
import Derived.Stop.Joined
namespace Bf
open Go Go.ChangeShapes Go.WideShapes Go.ChangeAt Go.RowKit
section
variable {P : Program}
/-- the cells of a listed table of numbers -/
theorem words_of_laid {name : String} {W : World} {g t e n : Nat} {k : IntKind} {ns : List Int} (h : laidMet P [(name, .agg (ns.map fun x => .lit (.int k x)))] W)
    (hg : P.globalNamed name = some g) (ht : (P.globals[g]?).map (·.type) = some t) (hu : P.underlying t = some (.array n e)) (he : P.underlying e = some (.int k)) (hc : P.cellsOf e = 1) (hn : 0 < ns.length) :
    At (Bf.hp W) ⟨g, 0, none⟩ (ns.map fun x => .int k x) := by
  obtain ⟨ps, ⟨g0, t0, cs0, f0, p0, q0, hg0, ht0, hv0, hd0, _, _⟩, _, _⟩ := h
  obtain rfl := Option.some.inj (hg.symm.trans hg0)
  obtain rfl := Option.some.inj (ht.symm.trans ht0)
  obtain ⟨xs, m, rfl, hx, hlen, hxs, hel⟩ := DataW.trod_array hu hd0
  simp only [Prod.mk.injEq, DataW.agg.injEq] at hx
  have hl : ns.length = n := by have := congrArg List.length hx.1; simp at this; omega
  have cell : ∀ j (u : Int), ns[j]? = some u → W.cell? ⟨g, j, none⟩ = some (.int k u) := by
    intro j u hj
    have hjn : j < n := by have := (List.getElem?_eq_some_iff.1 hj).1; omega
    have h0 := hel j hjn
    have hxj : j < xs.length := by omega
    rw [List.getElem?_eq_getElem hxj, hc, Nat.mul_one] at h0
    obtain ⟨z, e1, e2, _⟩ := DataW.trod_int he h0
    have hz : z = u := by
      have h1 := congrArg (fun l => l[j]?) hx.1
      simp only [List.getElem?_map, hj, List.getElem?_eq_getElem hxj, Option.map_some, e2, Option.some.injEq, DataW.lit.injEq, Lit.int.injEq] at h1
      exact h1.2.symm
    subst hz
    have := World.var?_cell hg hv0 j
    rw [this]
    rw [List.take_one, List.head?_drop] at e1
    have h2 : cs0.toList[j]? = some (.int k z) := by
      cases hq : cs0.toList[j]? with
      | none => rw [hq] at e1; cases e1
      | some v => rw [hq] at e1; simpa using e1
    simpa using h2
  refine ⟨rfl, ?_⟩
  obtain ⟨u0, hu0⟩ : ∃ u, ns[0]? = some u := ⟨ns[0], by simp [hn]⟩
  have c0 := cell 0 u0 hu0
  have key : ∀ j v, W.cell? ⟨g, j, none⟩ = some v → ∃ all t fz, Bf.hp W g = some (.cells all t fz) ∧ all[j]? = some v := fun j v hv => by
    obtain ⟨_, all, t, fz, h1, h2⟩ := cell_inv hv
    exact ⟨all, t, fz, h1, h2⟩
  obtain ⟨all, t, fz, h1, _⟩ := key 0 _ c0
  refine ⟨all, t, fz, h1, fun j v hj => ?_⟩
  rw [List.getElem?_map] at hj
  cases hq : ns[j]? with
  | none => rw [hq] at hj; cases hj
  | some u =>
    rw [hq] at hj
    obtain ⟨all', t', fz', h3, h4⟩ := key j _ (cell j u hq)
    rw [h1] at h3
    cases h3
    simp at hj
    subst hj
    simpa using h4
end
section
variable {H : Type} {enc : TypeId × Value → H} {P : Program}
theorem lift_true_laid {C : Checked} {os : Os} (started : os.Started) {fid : FuncId} {fn : Func} {s : ChangeSpec} {tb : TypeId} {ts : List TypeId} {name : String} {g t e n : Nat} {k : IntKind} {ns : List Int}
    (own : ownKnob C.prog.godebug = none) (noInit : C.prog.inits.idxOf? fid = none) (hfn : C.prog.funcs[fid]? = some fn)
    (witness : ∃ (w : World) (tape : Tape) (i : Input), w.os = os ∧ (w.forCall tape i).Shaped C.prog ∧ i.vars = [] ∧ Input.okWide C.prog (w.forCall tape i) .any w.heap.size fid i ∧
      ((s.pre enc C.prog fn [] false (w.forCall tape i).memory i.args ∧ laidMetH C.prog [(name, .agg (ns.map fun x => .lit (.int k x)))] (w.forCall tape i).memory) ∧ sizedMet enc C.prog fn (OpenSpec.ofChange s) false (w.forCall tape i).memory i.args) ∧ ({ modest := false } : Assume).holds C.prog (lone (Frame.enter C.prog fid i.args .normal) [] (w.forCall tape i)))
    (hts : fn.params.toList = ts) (laid : laidOutB C.prog = true) (hread : ts.all (fun t => C.prog.readableRec t && Nat.blt t C.prog.types.size) = true) (hvars : s.vars = [])
    (hspec : ∀ ds : List (DataW H), ds.length = ts.length → s.fn H ds = { results := [.lit (.bool true)], args := ds })
    (hres : fn.resultTypes = #[tb]) (hb : C.prog.underlying tb = some .bool)
    (hg : C.prog.globalNamed name = some g) (ht : (C.prog.globals[g]?).map (·.type) = some t) (hu : C.prog.underlying t = some (.array n e)) (he : C.prog.underlying e = some (.int k)) (hc : C.prog.cellsOf e = 1) (hn : 0 < ns.length)
    (hwalk : ∀ (W : World) (base : Nat) (vs : List Value), At (Bf.hp W) ⟨g, 0, none⟩ (ns.map fun x => .int k x) → vs.length = ts.length → (∀ (j : Nat) t v, ts[j]? = some t → vs[j]? = some v → Arg enc C.prog W base t v) → Fn0 C.prog fid vs (Bf.hp W) (fun r _ => r = .bool true)) :
    ReturnsInHanded {} C os fid .any (fun w args => (s.pre enc C.prog fn [] false w args ∧ laidMetH C.prog [(name, .agg (ns.map fun x => .lit (.int k x)))] w) ∧ sizedMet enc C.prog fn (OpenSpec.ofChange s) false w args) (s.post enc C.prog fn false true false false) := by
  refine returnsInHanded_of_change_and (X := fun w _ => laidMetH C.prog [(name, .agg (ns.map fun x => .lit (.int k x)))] w) (fun _ _ _ hh h => h.of_heap hh) own started noInit hfn witness ?_
  intro W base args ds gs before hval hW hcnd _ hL _
  rw [MakeChecks.laidMetH_plain _ _ _ (by simp [DataW.handleName?])] at hL
  have hAt := words_of_laid hL hg ht hu he hc hn
  obtain ⟨p, q, hA, hV, rfl, hfz, hnd⟩ := id hW
  rw [hvars] at hV
  obtain ⟨rfl, rfl⟩ := trodVars_none hV
  rw [hts] at hA
  obtain ⟨hlen, hdl⟩ := trodAll_len hA
  have hat := trodAll_at hA
  have hfn0 := hwalk W base args.toList hAt hlen (fun j t v ht hv => ⟨hval j t v (by
    rw [← hts] at ht; simpa using ht) (by simpa using hv), hat j t v ht hv⟩)
  have hOwn : Own W (Bf.hp W) [] W := ⟨rfl, rfl, rfl, Mem.le.refl _, by simp, by simp, by simp, by simp⟩
  have hcall := hfn0.2 W [] W hOwn
  refine hcall.mono ?_
  rintro e W' ⟨v, M', A', rfl, hm, ho, rfl, rfl⟩
  have hbl := below_of ho hm
  have hlt : ∀ x ∈ p, x.block < W.heap.size := fun x hx => hW.lt x (by simpa using hx)
  have hspec' := hspec (ds ++ []) (by simpa using hdl)
  rw [List.append_nil] at hspec'
  have hstay : ∀ sp : Nat → Bool, (∀ x ∈ p, sp x.block = true) → DataW.TrodAll enc C.prog W' 0 sp true ts args.toList ds p := fun sp hsp =>
    trodAll_stays laid (fun t ht => by
      have := List.all_eq_true.1 hread t ht
      rw [Bool.and_eq_true] at this
      exact ⟨this.1, Nat.blt_eq.mp this.2⟩) hA (fun x hx => hbl.same (hlt x hx)) hsp
  have hold : ∀ x ∈ p, (fun b => decide (b < W.heap.size)) x.block = true := fun x hx => by simpa using hlt x hx
  refine ⟨_, rfl, ds, [], p ++ [], [], p, [], hW, ?_, ?_, ?_, World.keptBut_mono (fun x hx => ⟨?_, Or.inr (Or.inl ?_)⟩) (hbl.frame (· ∈ p)), fun h => by cases h⟩
  · rw [List.append_nil, hspec', hres]
    exact trodAll_mk1 (shut_bool hb true)
  · rw [List.append_nil, hspec', hts]
    exact hstay _ hold
  · rw [List.append_nil, hspec', hvars]; rfl
  · simpa using hx
  · simpa using hx
end
end Bf

