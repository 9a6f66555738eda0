/-
  The row of a law that answers true, where what is read is bounded: arguments with what they read as.
  Conditions: none; plain laws over any program.
-/
import Derived.Test.YtkbggengagockaaBfRow
import Derived.JoinedCond
namespace Bf
open Go
section
variable {H : Type} {enc : TypeId × Value → H} {P : Program} {w : World} {sp : Nat → Bool} {held : Bool}
theorem read_sliceD {fuel : Nat} {t e : TypeId} {v : Value} {x : DataW H × List MemPlace} (hu : P.underlying t = some (.slice e)) (h : DataW.trod enc P w 0 sp held fuel t [v] = some x) :
    v = .slice none 0 0 ∨ ∃ (a : Addr) (len cap f : Nat) (es : List (DataW H × List MemPlace)) (spare : List (DataW H)), f < fuel ∧ v = .slice (some a) len cap ∧ len ≤ cap ∧ cap ≤ maxLen ∧ x.1 = .slice (es.map Prod.fst) spare ∧ es.length = len ∧ ∀ i, i < len → ∃ cs y, es[i]? = some y ∧ w.cells? 0 (a.add (i * P.cellsOf e)) (P.cellsOf e) = some cs ∧ DataW.trod enc P w 0 sp held f e cs = some y := by
  cases fuel with
  | zero => cases h
  | succ f =>
    unfold DataW.trod at h
    rw [hu] at h
    split at h <;> first | (rename_i h0; cases h0; done) | skip
    all_goals first | (exfalso; simp_all; done) | skip
    · rename_i h1 h2
      left
      cases h2
      rfl
    · rename_i e' a len cap h1 h2
      right
      cases h1
      cases h2
      dsimp only at h
      split at h
      · rename_i hc
        obtain ⟨_, hc2, hc3⟩ := hc
        cases hm : (List.range len).mapM fun i => (w.cells? 0 (a.add (i * P.cellsOf e)) (P.cellsOf e)).bind (DataW.trod enc P w 0 sp held f e) with
        | none => rw [hm] at h; cases h
        | some es =>
          rw [hm] at h
          obtain ⟨h3, h4⟩ := mapM_some hm
          rw [List.length_range] at h3
          have hx1 : ∃ spare, x.1 = .slice (es.map Prod.fst) spare := by
            simp only [Option.bind_some] at h
            cases hs : (if sp a.block = true then List.mapM (fun j => (w.cells? 0 (a.add ((len + j) * P.cellsOf e)) (P.cellsOf e)).bind (DataW.trod enc P w 0 sp held f e)) (List.range (cap - len)) else some []) with
            | none => rw [hs] at h; cases h
            | some rest =>
              rw [hs] at h
              simp only [Option.map_some, Option.some.injEq] at h
              rw [← h]
              exact ⟨_, rfl⟩
          obtain ⟨spare, hx1⟩ := hx1
          refine ⟨a, len, cap, f, es, spare, Nat.lt_succ_self f, rfl, hc2, hc3, hx1, by omega, fun i hi => ?_⟩
          obtain ⟨y, hy, hy2⟩ := h4 i i (by simp [List.getElem?_range, hi])
          cases hcs : w.cells? 0 (a.add (i * P.cellsOf e)) (P.cellsOf e) with
          | none => rw [hcs] at hy; cases hy
          | some cs => rw [hcs] at hy; exact ⟨cs, y, hy2, rfl, hy⟩
      · cases h
/-- a slice as its elements read, with a measure -/
theorem read_slOfD {α : Type} {R : Mem → List Value → α → Prop} (m : α → Nat) (mb : DataW H → Nat) {fuel sz : Nat} {t e : TypeId} {v : Value} {x : DataW H × List MemPlace} (hu : P.underlying t = some (.slice e)) (hsz : P.cellsOf e = sz) (hpos : 0 < sz)
    (hR : ∀ f cs y, f < fuel → cs.length = sz → DataW.trod enc P w 0 sp held f e cs = some y → (∀ u ∈ cs, u.oneCell' = true) ∧ ∃ z, R (Bf.hp w) cs z ∧ m z ≤ mb y.1)
    (h : DataW.trod enc P w 0 sp held fuel t [v] = some x) : ∃ (xs : List α) (A : Option Addr) (c : Nat), v = .slice A xs.length c ∧ SlOf sz R (Bf.hp w) (.slice A xs.length c) xs ∧ (xs = [] ∨ ∃ es spare, x.1 = .slice es spare ∧ es.length = xs.length ∧ ∀ (i : Nat) z d, xs[i]? = some z → es[i]? = some d → m z ≤ mb d) := by
  rcases read_sliceD hu h with rfl | ⟨a, len, cap, f, es, spare, hf, rfl, h1, h2, hx0, hes, h3⟩
  · exact ⟨[], none, 0, rfl, SlOf.nil _ _ _, .inl rfl⟩
  subst hsz
  have h4 : ∀ i, i < len → ∃ cs, (cs.length = P.cellsOf e ∧ (a.add (i * P.cellsOf e)).spot = none ∧ ∃ all t fz, Bf.hp w (a.add (i * P.cellsOf e)).block = some (.cells all t fz) ∧ ∀ (j : Nat) u, cs[j]? = some u → all[(a.add (i * P.cellsOf e)).off + j]? = some u) ∧ (∀ u ∈ cs, u.oneCell' = true) ∧ ∃ z, R (Bf.hp w) cs z ∧ ∀ y, es[i]? = some y → m z ≤ mb y.1 := fun i hi => by
    obtain ⟨cs, y, hey, hc, hy⟩ := h3 i hi
    have hi := cells_inv hpos hc
    obtain ⟨r1, z, r2, r3⟩ := hR f cs y hf hi.1 hy
    exact ⟨cs, hi, r1, z, r2, fun y' hy' => by rw [hey] at hy'; cases hy'; exact r3⟩
  by_cases hl : len = 0
  · subst hl
    exact ⟨[], some a, cap, rfl, ⟨_, _, [], rfl, Nat.zero_le _, h2, fun _ => rfl, Row.nil _ _ _, by simp⟩, .inl rfl⟩
  obtain ⟨cs0, ⟨k1, k2, all, t0, fz, k3, k4⟩, _⟩ := h4 0 (by omega)
  have e0 : a.add (0 * P.cellsOf e) = a := by rw [Nat.zero_mul]; unfold Addr.add; simp
  rw [e0] at k2 k3 k4
  have h5 : ∀ i, i < len → ∃ z, ∃ cs, cs.length = P.cellsOf e ∧ (∀ (j : Nat) u, cs[j]? = some u → all[a.off + i * P.cellsOf e + j]? = some u) ∧ (∀ u ∈ cs, u.oneCell' = true) ∧ R (Bf.hp w) cs z ∧ ∀ y, es[i]? = some y → m z ≤ mb y.1 := fun i hi => by
    obtain ⟨cs, ⟨m1, m2, all', t', fz', m3, m4⟩, m5, z, m6, m7⟩ := h4 i hi
    rw [(add_off a _).1, k3] at m3
    cases m3
    rw [(add_off a _).2] at m4
    exact ⟨z, cs, m1, m4, m5, m6, m7⟩
  obtain ⟨xs, hx1, hx2⟩ := pick_list h5
  subst hx1
  let cells := (all.toList.drop a.off).take (xs.length * P.cellsOf e)
  have hget : ∀ j, j < xs.length * P.cellsOf e → cells[j]? = all[a.off + j]? := fun j hj => by
    show ((all.toList.drop a.off).take _)[j]? = _
    rw [List.getElem?_take, if_pos hj, List.getElem?_drop, Array.getElem?_toList]
  have hdec : ∀ i, i < xs.length → ∀ j, j < P.cellsOf e → i * P.cellsOf e + j < xs.length * P.cellsOf e := fun i hi j hj => by
    have : (i + 1) * P.cellsOf e ≤ xs.length * P.cellsOf e := Nat.mul_le_mul_right _ hi
    rw [Nat.add_mul, Nat.one_mul] at this
    omega
  have hsome : ∀ j, j < xs.length * P.cellsOf e → ∃ u, all[a.off + j]? = some u ∧ u.oneCell' = true := fun j hj => by
    have hi : j / P.cellsOf e < xs.length := by rw [Nat.div_lt_iff_lt_mul hpos]; exact hj
    obtain ⟨z, hz⟩ := get_of_lt hi
    obtain ⟨cs, n1, n2, n3, _, _⟩ := hx2 _ z hz
    have hm : j % P.cellsOf e < cs.length := by rw [n1]; exact Nat.mod_lt _ hpos
    have := n2 (j % P.cellsOf e) cs[j % P.cellsOf e] (by simp [hm])
    rw [Nat.add_assoc, Nat.div_add_mod'] at this
    exact ⟨_, this, n3 _ (List.getElem_mem hm)⟩
  have hlen : cells.length = xs.length * P.cellsOf e := by
    obtain ⟨u, hu, _⟩ := hsome (xs.length * P.cellsOf e - 1) (by have := Nat.mul_pos (Nat.pos_of_ne_zero hl) hpos; omega)
    have hlt := (Array.getElem?_eq_some_iff.1 hu).1
    have := Nat.mul_pos (Nat.pos_of_ne_zero hl) hpos
    show ((all.toList.drop a.off).take _).length = _
    have h9 : all.toList.length = all.size := by simp
    rw [List.length_take, List.length_drop, h9]
    omega
  have hat : At (Bf.hp w) a cells := ⟨k2, all, t0, fz, k3, fun j u hj => by
    have hlt := (List.getElem?_eq_some_iff.1 hj).1
    rw [← hget j (by omega)]; exact hj⟩
  refine ⟨xs, some a, cap, rfl, ⟨some a, cap, cells, rfl, h1, h2, fun h => (by cases h), ⟨hlen, fun u hu => ?_, fun _ => ⟨a, rfl, hat⟩⟩, fun i z hz => ?_⟩, .inr ⟨es.map Prod.fst, spare, hx0, by rw [List.length_map]; exact hes, fun i z d hz hd => ?_⟩⟩
  · obtain ⟨j, hj⟩ := List.getElem?_of_mem hu
    have hlt := (List.getElem?_eq_some_iff.1 hj).1
    obtain ⟨u', hu', ho⟩ := hsome j (by omega)
    rw [hget j (by omega), hu'] at hj
    cases hj
    exact ho
  · obtain ⟨cs, n1, n2, n3, n4, _⟩ := hx2 i z hz
    have hi := (List.getElem?_eq_some_iff.1 hz).1
    have : (cells.drop (i * P.cellsOf e)).take (P.cellsOf e) = cs := by
      apply List.ext_getElem?
      intro j
      by_cases hj : j < P.cellsOf e
      · rw [List.getElem?_take, if_pos hj, List.getElem?_drop, hget _ (hdec i hi j hj), ← Nat.add_assoc]
        have hm : j < cs.length := by omega
        rw [n2 j cs[j] (by simp [hm])]
        simp [hm]
      · rw [List.getElem?_take, if_neg hj, List.getElem?_eq_none (by omega)]
    rw [this]; exact n4

  · obtain ⟨cs, n1, n2, n3, n4, n5⟩ := hx2 i z hz
    rw [List.getElem?_map] at hd
    cases he : es[i]? with
    | none => rw [he] at hd; cases hd
    | some y => rw [he] at hd; cases hd; exact n5 y he
/-- a struct, with the parts of what it reads as -/
theorem read_structD {fuel : Nat} {t : TypeId} {fs : Array Field} {cs : List Value} {x : DataW H × List MemPlace} (hu : P.underlying t = some (.struct fs)) (h : DataW.trod enc P w 0 sp held fuel t cs = some x) :
    cs.length = P.cellsOf t ∧ ∃ f parts, f < fuel ∧ x.1 = .agg parts ∧ ∀ (i : Nat) (fl : Field), fs[i]? = some fl → ∃ y, parts[i]? = some y.1 ∧ DataW.trod enc P w 0 sp held f fl.type ((cs.drop fl.offset).take (P.cellsOf fl.type)) = some y := by
  cases fuel with
  | zero => cases h
  | succ f =>
    unfold DataW.trod at h
    rw [hu] at h
    split at h <;> first | (rename_i h0; cases h0; done) | skip
    all_goals first | (exfalso; simp_all; done) | skip
    rename_i cs0 x0 cs1 fs1 h1
    cases h1
    split at h
    · rename_i hc
      cases hm : fs.toList.mapM fun fl => DataW.trod enc P w 0 sp held f fl.type ((cs0.drop fl.offset).take (P.cellsOf fl.type)) with
      | none => rw [hm] at h; cases h
      | some es =>
        rw [hm] at h
        simp only [Option.map_some, Option.some.injEq] at h
        refine ⟨hc, f, es.map Prod.fst, Nat.lt_succ_self f, by rw [← h], fun i fl hfl => ?_⟩
        obtain ⟨_, h4⟩ := mapM_some hm
        obtain ⟨y, hy, hy2⟩ := h4 i fl (by simpa using hfl)
        exact ⟨y, by rw [List.getElem?_map, hy2]; rfl, hy⟩
    · cases h
theorem read_bytesD {P : Program} {fuel : Nat} {t e : TypeId} {v : Value} {x : DataW H × List MemPlace} (hu : P.underlying t = some (.slice e)) (he : P.underlying e = some (.int .u8)) (hsz : P.cellsOf e = 1) (h : DataW.trod enc P w 0 sp held fuel t [v] = some x) :
    ∃ (bs : List UInt8) (A : Option Addr) (c : Nat), v = .slice A bs.length c ∧ BSl (Bf.hp w) (.slice A bs.length c) bs ∧ (bs = [] ∨ ∃ es spare, x.1 = .slice es spare ∧ es.length = bs.length) := by
  obtain ⟨xs, A, c, rfl, ⟨A', c', cells, e1, h2, h3, h4, h5, h6⟩, hes⟩ := read_slOfD (α := UInt8) (R := fun _ cs x => cs = [.int .u8 (x.toNat : Int)]) (fun _ => 0) (fun _ => 0) hu hsz (by omega) (fun f cs y _ hl hy => by
    obtain ⟨n, rfl, hw⟩ := read_int he hy
    refine ⟨by intro u hu; simp at hu; subst hu; rfl, UInt8.ofNat n.toNat, ?_, Nat.le_refl _⟩
    have hmin : IntKind.u8.min = 0 := by decide
    have hmax : IntKind.u8.max = 255 := by decide
    have : 0 ≤ n ∧ n ≤ 255 := by simpa [Lit.wf, hmin, hmax] using hw
    have e : ((UInt8.ofNat n.toNat).toNat : Int) = n := by
      simp [UInt8.toNat_ofNat']
      omega
    rw [e]) h
  cases e1
  have hc := cells_byteV (by simpa using h5.len) h6
  subst hc
  exact ⟨xs, A, c, rfl, ⟨A, c, rfl, h2, h3, h4, h5⟩, hes.imp id fun ⟨es, spare, e1, e2, _⟩ => ⟨es, spare, e1, e2⟩⟩
end
end Bf
namespace Bf
open Go Go.ChangeShapes Go.WideShapes Go.ChangeAt Go.RowKit
section
variable {H : Type} {enc : TypeId × Value → H} {P : Program}
theorem trodAll_atD {sp : Nat → Bool} {W : World} {hd : Bool} : ∀ {ts : List TypeId} {vs : List Value} {ds : List (DataW H)} {ps : List MemPlace}, DataW.TrodAll enc P W 0 sp hd ts vs ds ps →
    ∀ (j : Nat) t v, ts[j]? = some t → vs[j]? = some v → ∃ d, ds[j]? = some d ∧ ∃ fuel p, DataW.trod enc P W 0 sp hd fuel t v.cells.toList = some (d, p)
  | t :: ts, v :: vs, d :: ds, ps, h, j, t', v', ht, hv => by
    obtain ⟨p, q, ⟨f, h1⟩, h2, rfl⟩ := h
    cases j with
    | zero => cases ht; cases hv; exact ⟨d, rfl, f, _, h1⟩
    | succ j => simpa using trodAll_atD h2 j t' v' (by simpa using ht) (by simpa using hv)
  | [], _, _, _, _, _, _, _, ht, _ => by simp at ht
  | _ :: _, [], _, _, h, _, _, _, _, _ => by simp [DataW.TrodAll] at h
  | _ :: _, _ :: _, [], _, h, _, _, _, _, _ => by simp [DataW.TrodAll] at h
/-- one argument of a law, and what it reads as -/
def ArgD (enc : TypeId × Value → H) (P : Program) (W : World) (base : Nat) (t : TypeId) (v : Value) (d : DataW H) : Prop :=
  Value.okWide P W .any base t v ∧ ∃ fuel p, DataW.trod enc P W 0 (fun _ => true) true fuel t v.cells.toList = some (d, p)
theorem lift_cond {C : Checked} {os : Os} (started : os.Started) {fid : FuncId} {fn : Func} {s : ChangeSpec} {so : OpenSpec} {kc : (H : Type) → List (DataW H) → Bool} (hkc : so.cond = some kc) {F : Stop.Interp} (hvs : so.vars = s.vars) (hpost : (so.at F).post enc C.prog fn false true false false = s.post enc C.prog fn false true false false) {conds : List PathCond} {tb : TypeId} {ts : List TypeId}
    (own : ownKnob C.prog.godebug = none) (noInit : C.prog.inits.idxOf? fid = none) (hfn : C.prog.funcs[fid]? = some fn)
    (witness : ∃ (w : World) (tape : Tape) (i : Input), w.os = os ∧ (w.forCall tape i).Shaped C.prog ∧ i.vars = [] ∧ Input.okWide C.prog (w.forCall tape i) .any w.heap.size fid i ∧
      so.pre6 enc C.prog fn conds false (w.forCall tape i).memory i.args ∧ ({ modest := false } : Assume).holds C.prog (lone (Frame.enter C.prog fid i.args .normal) [] (w.forCall tape i)))
    (hts : fn.params.toList = ts) (laid : laidOutB C.prog = true) (hread : ts.all (fun t => C.prog.readableRec t && Nat.blt t C.prog.types.size) = true) (hvars : s.vars = [])
    (hspec : ∀ ds : List (DataW H), ds.length = ts.length → s.fn H ds = { results := [.lit (.bool true)], args := ds })
    (hres : fn.resultTypes = #[tb]) (hb : C.prog.underlying tb = some .bool)
    (hwalk : ∀ (W : World) (base : Nat) (vs : List Value) (ds : List (DataW H)), vs.length = ts.length → kc H ds = true → (∀ (j : Nat) t v, ts[j]? = some t → vs[j]? = some v → ∃ d, ds[j]? = some d ∧ ArgD enc C.prog W base t v d) → Fn0 C.prog fid vs (Bf.hp W) (fun r _ => r = .bool true)) :
    ReturnsInHanded {} C os fid .any (so.pre6 enc C.prog fn conds false) ((so.at F).post enc C.prog fn false true false false) := by
  refine returnsInHanded_of_cond hkc own started noInit hfn witness ?_
  intro W base args ds gs before hval hW hcnd hkk _
  rw [hpost]
  rw [hvs] at hW
  obtain ⟨p, q, hA, hV, rfl, hfz, hnd⟩ := id hW
  rw [hvars] at hV
  obtain ⟨rfl, rfl⟩ := trodVars_none hV
  rw [hts] at hA
  obtain ⟨hlen, hdl⟩ := trodAll_len hA
  have hat := trodAll_atD hA
  rw [List.append_nil] at hkk
  have hfn0 := hwalk W base args.toList ds hlen hkk (fun j t v ht hv => by
    obtain ⟨d, h1, h2⟩ := hat j t v ht hv
    exact ⟨d, h1, hval j t v (by rw [← hts] at ht; simpa using ht) (by simpa using hv), h2⟩)
  have hOwn : Own W (Bf.hp W) [] W := ⟨rfl, rfl, rfl, Mem.le.refl _, by simp, by simp, by simp, by simp⟩
  have hcall := hfn0.2 W [] W hOwn
  refine hcall.mono ?_
  rintro e W' ⟨v, M', A', rfl, hm, ho, rfl, rfl⟩
  have hbl := below_of ho hm
  have hlt : ∀ x ∈ p, x.block < W.heap.size := fun x hx => hW.lt x (by simpa using hx)
  have hspec' := hspec (ds ++ []) (by simpa using hdl)
  rw [List.append_nil] at hspec'
  have hstay : ∀ sp : Nat → Bool, (∀ x ∈ p, sp x.block = true) → DataW.TrodAll enc C.prog W' 0 sp true ts args.toList ds p := fun sp hsp =>
    trodAll_stays laid (fun t ht => by
      have := List.all_eq_true.1 hread t ht
      rw [Bool.and_eq_true] at this
      exact ⟨this.1, Nat.blt_eq.mp this.2⟩) hA (fun x hx => hbl.same (hlt x hx)) hsp
  have hold : ∀ x ∈ p, (fun b => decide (b < W.heap.size)) x.block = true := fun x hx => by simpa using hlt x hx
  refine ⟨_, rfl, ds, [], p ++ [], [], p, [], hW, ?_, ?_, ?_, World.keptBut_mono (fun x hx => ⟨?_, Or.inr (Or.inl ?_)⟩) (hbl.frame (· ∈ p)), fun h => by cases h⟩
  · rw [List.append_nil, hspec', hres]
    exact trodAll_mk1 (shut_bool hb true)
  · rw [List.append_nil, hspec', hts]
    exact hstay _ hold
  · rw [List.append_nil, hspec', hvars]; rfl
  · simpa using hx
  · simpa using hx
end
end Bf
