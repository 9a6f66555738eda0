/-
 The row of a law that answers true and leaves what it was handed as it was: what is left to show is the walk.
 Conditions: none; plain laws over any program.
-/
import Derived.Test.YtlifjajcmnkhfaaGreatUBfArg
import Derived.ProofKit
namespace Bf
open Go Go.ChangeShapes Go.WideShapes Go.ChangeAt Go.RowKit
section
variable {H : Type} {enc : TypeId × Value → H} {P : Program}
theorem trodAll_stays {sp : Nat → Bool} {W W' : World} (hl : laidOutB P = true) : ∀ {ts : List TypeId} {vs : List Value} {ds : List (DataW H)} {ps : List MemPlace}, (∀ t ∈ ts, P.readableRec t = true ∧ t < P.types.size) →
  DataW.TrodAll enc P W 0 (fun _ => true) true ts vs ds ps → (∀ p ∈ ps, W.sameAt W' p) → (∀ p ∈ ps, sp p.block = true) → DataW.TrodAll enc P W' 0 sp true ts vs ds ps
 | [], [], [], ps, _, h, _, _ => h
 | t :: ts, v :: vs, d :: ds, ps, hr, h, hsame, hs => by
  obtain ⟨p, q, h1, h2, rfl⟩ := h
  have ht := hr t (by simp)
  exact ⟨p, q, WideElems.Trod_stays hl ht.1 ht.2 h1 (fun x hx => hsame x (by simp [hx])) (fun x hx => hs x (by simp [hx])),
   trodAll_stays hl (fun t ht => hr t (by simp [ht])) h2 (fun x hx => hsame x (by simp [hx])) (fun x hx => hs x (by simp [hx])), rfl⟩
 | [], _ :: _, _, _, _, h, _, _ => by simp [DataW.TrodAll] at h
 | [], [], _ :: _, _, _, h, _, _ => by simp [DataW.TrodAll] at h
 | _ :: _, [], _, _, _, h, _, _ => by simp [DataW.TrodAll] at h
 | _ :: _, _ :: _, [], _, _, h, _, _ => by simp [DataW.TrodAll] at h
theorem trodAll_len {sp : Nat → Bool} {W : World} {hd : Bool} : ∀ {ts : List TypeId} {vs : List Value} {ds : List (DataW H)} {ps : List MemPlace}, DataW.TrodAll enc P W 0 sp hd ts vs ds ps → vs.length = ts.length ∧ ds.length = ts.length
 | [], [], [], ps, h => ⟨rfl, rfl⟩
 | t :: ts, v :: vs, d :: ds, ps, h => by
  obtain ⟨p, q, h1, h2, rfl⟩ := h
  obtain ⟨a, b⟩ := trodAll_len h2
  exact ⟨by simp [a], by simp [b]⟩
 | [], _ :: _, _, _, h => by simp [DataW.TrodAll] at h
 | [], [], _ :: _, _, h => by simp [DataW.TrodAll] at h
 | _ :: _, [], _, _, h => by simp [DataW.TrodAll] at h
 | _ :: _, _ :: _, [], _, h => by simp [DataW.TrodAll] at h
theorem trodAll_at {sp : Nat → Bool} {W : World} {hd : Bool} : ∀ {ts : List TypeId} {vs : List Value} {ds : List (DataW H)} {ps : List MemPlace}, DataW.TrodAll enc P W 0 sp hd ts vs ds ps →
  ∀ (j : Nat) t v, ts[j]? = some t → vs[j]? = some v → ∃ fuel x, DataW.trod enc P W 0 sp hd fuel t v.cells.toList = some x
 | t :: ts, v :: vs, d :: ds, ps, h, j, t', v', ht, hv => by
  obtain ⟨p, q, ⟨f, h1⟩, h2, rfl⟩ := h
  cases j with
  | zero => cases ht; cases hv; exact ⟨f, _, h1⟩
  | succ j => exact trodAll_at h2 j t' v' (by simpa using ht) (by simpa using hv)
 | [], _, _, _, _, _, _, _, ht, _ => by simp at ht
 | _ :: _, [], _, _, h, _, _, _, _, _ => by simp [DataW.TrodAll] at h
 | _ :: _, _ :: _, [], _, h, _, _, _, _, _ => by simp [DataW.TrodAll] at h

theorem below_of {W W' : World} {M : Mem} (h : Own W M [] W') (hm : Mem.le (Bf.hp W) M) : Below W.heap.size W W' := by
 have hle := hm.trans h.mem
 refine ⟨h.os, h.tape, h.output, ?_, fun k hk => ?_⟩
 ·by_cases h0 : W.heap.size = 0
  ·omega
  ·have : Bf.hp W (W.heap.size - 1) = some W.heap[W.heap.size - 1] := by show W.heap[_]? = _; simp
   have := hle _ _ this
   have := Bf.hp_lt this
   omega
 ·have : Bf.hp W k = some W.heap[k] := by show W.heap[_]? = _; simp [hk]
  have h2 := hle _ _ this
  rw [show W'.heap[k]? = some W.heap[k] from h2]
  simp [hk]

def Arg (enc : TypeId × Value → H) (P : Program) (W : World) (base : Nat) (t : TypeId) (v : Value) : Prop :=
 Value.okWide P W .any base t v ∧ ∃ fuel x, DataW.trod enc P W 0 (fun _ => true) true fuel t v.cells.toList = some x

theorem lift_true {C : Checked} {os : Os} (started : os.Started) {fid : FuncId} {fn : Func} {s : ChangeSpec} {conds : List PathCond} {tb : TypeId} {ts : List TypeId}
  (own : ownKnob C.prog.godebug = none) (noInit : C.prog.inits.idxOf? fid = none) (hfn : C.prog.funcs[fid]? = some fn)
  (witness : ∃ (w : World) (tape : Tape) (i : Input), w.os = os ∧ (w.forCall tape i).Shaped C.prog ∧ i.vars = [] ∧ Input.okWide C.prog (w.forCall tape i) .any w.heap.size fid i ∧
   s.pre6 enc C.prog fn conds false (w.forCall tape i).memory i.args ∧ ({ modest := false } : Assume).holds C.prog (lone (Frame.enter C.prog fid i.args .normal) [] (w.forCall tape i)))
  (hts : fn.params.toList = ts) (laid : laidOutB C.prog = true) (hread : ts.all (fun t => C.prog.readableRec t && Nat.blt t C.prog.types.size) = true) (hvars : s.vars = [])
  (hspec : ∀ ds : List (DataW H), ds.length = ts.length → s.fn H ds = { results := [.lit (.bool true)], args := ds })
  (hres : fn.resultTypes = #[tb]) (hb : C.prog.underlying tb = some .bool)
  (hwalk : ∀ (W : World) (base : Nat) (vs : List Value), vs.length = ts.length → (∀ (j : Nat) t v, ts[j]? = some t → vs[j]? = some v → Arg enc C.prog W base t v) → Fn0 C.prog fid vs (Bf.hp W) (fun r _ => r = .bool true)) :
  ReturnsInHanded {} C os fid .any (s.pre6 enc C.prog fn conds false) (s.post enc C.prog fn false true false false) := by
 refine returnsInHanded_of_change own started noInit hfn witness ?_
 intro W base args ds gs before hval hW hcnd _
 obtain ⟨p, q, hA, hV, rfl, hfz, hnd⟩ := id hW
 rw [hvars] at hV
 obtain ⟨rfl, rfl⟩ := trodVars_none hV
 rw [hts] at hA
 obtain ⟨hlen, hdl⟩ := trodAll_len hA
 have hat := trodAll_at hA
 have hfn0 := hwalk W base args.toList hlen (fun j t v ht hv => ⟨hval j t v (by
  rw [← hts] at ht; simpa using ht) (by simpa using hv), hat j t v ht hv⟩)
 have hOwn : Own W (Bf.hp W) [] W := ⟨rfl, rfl, rfl, Mem.le.refl _, by simp, by simp, by simp, by simp⟩
 have hcall := hfn0.2 W [] W hOwn
 refine hcall.mono ?_
 rintro e W' ⟨v, M', A', rfl, hm, ho, rfl, rfl⟩
 have hbl := below_of ho hm
 have hlt : ∀ x ∈ p, x.block < W.heap.size := fun x hx => hW.lt x (by simpa using hx)
 have hspec' := hspec (ds ++ []) (by simpa using hdl)
 rw [List.append_nil] at hspec'
 have hstay : ∀ sp : Nat → Bool, (∀ x ∈ p, sp x.block = true) → DataW.TrodAll enc C.prog W' 0 sp true ts args.toList ds p := fun sp hsp =>
  trodAll_stays laid (fun t ht => by
   have := List.all_eq_true.1 hread t ht
   rw [Bool.and_eq_true] at this
   exact ⟨this.1, Nat.blt_eq.mp this.2⟩) hA (fun x hx => hbl.same (hlt x hx)) hsp
 have hold : ∀ x ∈ p, (fun b => decide (b < W.heap.size)) x.block = true := fun x hx => by simpa using hlt x hx
 refine ⟨_, rfl, ds, [], p ++ [], [], p, [], hW, ?_, ?_, ?_, World.keptBut_mono (fun x hx => ⟨?_, Or.inr (Or.inl ?_)⟩) (hbl.frame (· ∈ p)), fun h => by cases h⟩
 ·rw [List.append_nil, hspec', hres]
  exact trodAll_mk1 (shut_bool hb true)
 ·rw [List.append_nil, hspec', hts]
  exact hstay _ hold
 ·rw [List.append_nil, hspec', hvars]; rfl
 ·simpa using hx
 ·simpa using hx
end
end Bf

