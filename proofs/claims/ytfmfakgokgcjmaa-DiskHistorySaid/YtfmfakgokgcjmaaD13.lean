/-
  The disk: how a disk handed in reads; the row of DiskStopped.
  Conditions: none.
-/
import Derived.Test.YtfmfakgokgcjmaaD12
import Derived.Test.YtfmfakgokgcjmaaBfArg
import Derived.Test.YtfmfakgokgcjmaaRows
import Derived.ProofKit
namespace Go.Proofs.Ytfmfakgokgcjmaa
open Go Bf
open Go.ChangeShapes Go.WideShapes Go.ChangeAt Go.RowKit
section
variable {H : Type} {enc : TypeId × Value → H} {w : World} {sp : Nat → Bool} {held : Bool}

theorem cells_byteV {cells : List Value} {xs : List UInt8} (hl : cells.length = xs.length) (h : ∀ (i : Nat) x, xs[i]? = some x → (cells.drop (i * 1)).take 1 = [.int .u8 (x.toNat : Int)]) : cells = byteV xs := by
  apply List.ext_getElem?
  intro i
  by_cases hi : i < xs.length
  · have := h i xs[i] (by simp [hi])
    rw [Nat.mul_one, List.take_one, List.head?_drop] at this
    have hc : i < cells.length := by omega
    rw [List.getElem?_eq_getElem hc] at this ⊢
    simp at this
    simp [byteV, hi, this]
  · rw [List.getElem?_eq_none (by omega), List.getElem?_eq_none (by simp; omega)]
theorem read_bytes {P : Program} {fuel : Nat} {t e : TypeId} {v : Value} {x : DataW H × List MemPlace} (hu : P.underlying t = some (.slice e)) (he : P.underlying e = some (.int .u8)) (hsz : P.cellsOf e = 1) (h : DataW.trod enc P w 0 sp held fuel t [v] = some x) :
    ∃ (bs : List UInt8) (A : Option Addr) (c : Nat), v = .slice A bs.length c ∧ BSl (Bf.hp w) (.slice A bs.length c) bs := by
  obtain ⟨xs, A, c, rfl, A', c', cells, e1, h2, h3, h4, h5, h6⟩ := read_slOf (α := UInt8) (R := fun _ cs x => cs = [.int .u8 (x.toNat : Int)]) hu hsz (by omega) (fun f cs y hl hy => by
    obtain ⟨n, rfl, hw⟩ := read_int he hy
    refine ⟨by intro u hu; simp at hu; subst hu; rfl, UInt8.ofNat n.toNat, ?_⟩
    have hmin : IntKind.u8.min = 0 := by decide
    have hmax : IntKind.u8.max = 255 := by decide
    have : 0 ≤ n ∧ n ≤ 255 := by simpa [Lit.wf, hmin, hmax] using hw
    have e : ((UInt8.ofNat n.toNat).toNat : Int) = n := by
      simp [UInt8.toNat_ofNat']
      omega
    rw [e]) h
  cases e1
  have hc := cells_byteV (by simpa using h5.len) h6
  subst hc
  exact ⟨xs, A, c, rfl, A, c, rfl, h2, h3, h4, h5⟩
theorem u22 : Try.prog.underlying 22 = some (.slice 35) := (tysOk.get (t := 22) rfl).1
theorem u23 : Try.prog.underlying 23 = some (.slice 54) := (tysOk.get (t := 23) rfl).1
theorem u35 : Try.prog.underlying 35 = some (.slice 5) := (tysOk.get (t := 35) rfl).1
theorem u5 : Try.prog.underlying 5 = some (.int .u8) := (tysOk.get (t := 5) rfl).1
theorem u3 : Try.prog.underlying 3 = some (.int .i64) := (tysOk.get (t := 3) rfl).1
theorem u4 : Try.prog.underlying 4 = some .bool := (tysOk.get (t := 4) rfl).1
theorem c35 : Try.prog.cellsOf 35 = 1 := by kernel_rfl
theorem c54 : Try.prog.cellsOf 54 = 2 := by kernel_rfl
theorem c5 : Try.prog.cellsOf 5 = 1 := by kernel_rfl
theorem c25 : Try.prog.cellsOf 25 = 4 := by kernel_rfl
theorem c22 : Try.prog.cellsOf 22 = 1 := by kernel_rfl
theorem c23 : Try.prog.cellsOf 23 = 1 := by kernel_rfl
theorem c3 : Try.prog.cellsOf 3 = 1 := by kernel_rfl
theorem c4 : Try.prog.cellsOf 4 = 1 := by kernel_rfl

theorem len1 {l : List Value} (h : l.length = 1) : ∃ a, l = [a] := by
  match l, h with
  | [a], _ => exact ⟨a, rfl⟩
theorem len2 {l : List Value} (h : l.length = 2) : ∃ a b, l = [a, b] := by
  match l, h with
  | [a, b], _ => exact ⟨a, b, rfl⟩
theorem len4 {l : List Value} (h : l.length = 4) : ∃ a b c d, l = [a, b, c, d] := by
  match l, h with
  | [a, b, c, d], _ => exact ⟨a, b, c, d, rfl⟩

theorem open_disk {cs : List Value} {fuel : Nat} {x : DataW H × List MemPlace} (h : DataW.trod enc Try.prog w 0 sp held fuel 25 cs = some x) : ∃ d : Dsk, RDisk (Bf.hp w) (.agg cs.toArray) d := by
  obtain ⟨hl, f, hf⟩ := read_struct Try.underlying25 h
  rw [c25] at hl
  obtain ⟨a, b, c, e, rfl⟩ := len4 hl
  obtain ⟨y0, h0⟩ : ∃ y, DataW.trod enc Try.prog w 0 sp held f 22 (([a, b, c, e].drop 0).take (Try.prog.cellsOf 22)) = some y := hf 0 _ rfl
  rw [c22] at h0
  obtain ⟨y1, h1⟩ : ∃ y, DataW.trod enc Try.prog w 0 sp held f 23 (([a, b, c, e].drop 1).take (Try.prog.cellsOf 23)) = some y := hf 1 _ rfl
  rw [c23] at h1
  obtain ⟨y2, h2⟩ : ∃ y, DataW.trod enc Try.prog w 0 sp held f 3 (([a, b, c, e].drop 2).take (Try.prog.cellsOf 3)) = some y := hf 2 _ rfl
  rw [c3] at h2
  obtain ⟨y3, h3⟩ : ∃ y, DataW.trod enc Try.prog w 0 sp held f 4 (([a, b, c, e].drop 3).take (Try.prog.cellsOf 4)) = some y := hf 3 _ rfl
  rw [c4] at h3
  obtain ⟨n, e2, -⟩ := read_int u3 h2
  obtain ⟨q, e3⟩ := read_bool u4 h3
  cases e2
  cases e3
  obtain ⟨sec, A, ca, rfl, hs⟩ := read_slOf (R := RSec) u22 c35 (by omega) (fun f cs y hl hy => by
    obtain ⟨u, rfl⟩ := len1 hl
    obtain ⟨bs, A, c, rfl, hb⟩ := read_bytes u35 u5 c5 hy
    exact ⟨by intro u hu; simp at hu; subst hu; rfl, bs, A, c, rfl, hb⟩) h0
  obtain ⟨pen, B, cb, rfl, hp⟩ := read_slOf (R := RWr) u23 c54 (by omega) (fun f cs y hl hy => by
    obtain ⟨u, v, rfl⟩ := len2 hl
    obtain ⟨_, g, hg⟩ := read_struct Try.underlying54 hy
    obtain ⟨z0, k0⟩ : ∃ y, DataW.trod enc Try.prog w 0 sp held g 3 (([u, v].drop 0).take (Try.prog.cellsOf 3)) = some y := hg 0 _ rfl
    rw [c3] at k0
    obtain ⟨z1, k1⟩ : ∃ y, DataW.trod enc Try.prog w 0 sp held g 35 (([u, v].drop 1).take (Try.prog.cellsOf 35)) = some y := hg 1 _ rfl
    rw [c35] at k1
    obtain ⟨m, e5, -⟩ := read_int u3 k0
    cases e5
    obtain ⟨bs, A, c, rfl, hb⟩ := read_bytes u35 u5 c5 k1
    exact ⟨by intro u hu; simp at hu; rcases hu with rfl | rfl <;> rfl, (m, bs), A, c, rfl, hb⟩) h1
  exact ⟨⟨sec, pen, n, q⟩, A, ca, B, cb, rfl, hs, hp⟩

/-- the end of a row whose law leaves what it was handed as it was, and answers with a truth value -/
theorem shut_true {f : Func} {s : ChangeSpec} {apart fresh handsOn again : Bool} {W W' : World} {args : Array Value} {ds gs : List (DataW H)} {before pa pv : List MemPlace} {P : Program}
    (hW : DataW.Whole enc P f.params.toList s.vars apart W args.toList ds gs before)
    (hres : ∀ (b : Nat) (sp : Nat → Bool) (hd : Bool), DataW.TrodAll enc P W' b sp hd f.resultTypes.toList ((Value.bool true).resultList f.resultTypes.size) (s.fn H (ds ++ gs)).results [])
    (hargs : ∀ sp : Nat → Bool, (∀ p ∈ before, sp p.block = true) → DataW.TrodAll enc P W' 0 sp true f.params.toList args.toList (s.fn H (ds ++ gs)).args pa)
    (hvars : ∀ sp : Nat → Bool, (∀ p ∈ before, sp p.block = true) → DataW.TrodVars enc P W' sp s.vars (s.fn H (ds ++ gs)).vars pv)
    (hps : before = pa ++ pv) (hb : Below W.heap.size W W')
    (hok : ∀ (j : Nat) (t : TypeId) (r : Value), f.resultTypes[j]? = some t → ((Value.bool true).resultList f.resultTypes.size)[j]? = some r → Value.okWide P W' .any 0 t r) :
    s.post enc P f apart fresh handsOn again W args (.bool true) W' := by
  have hlt : ∀ p ∈ before, p.block < W.heap.size := fun p hp => hW.lt p hp
  have hold : ∀ p ∈ before, (fun b => decide (b < W.heap.size)) p.block = true := fun p hp => by simpa using hlt p hp
  refine ⟨ds, gs, before, [], pa, pv, hW, hres _ _ _, hargs _ hold, hvars _ hold, World.keptBut_mono (fun p hp => ⟨hp, ?_⟩) (hb.frame (· ∈ before)), fun _ => ?_⟩
  · rw [hps, List.mem_append] at hp
    exact Or.inr hp
  · obtain ⟨_, _, _, _, _, hz, hn⟩ := hW
    refine ⟨hok, _, _, ([] ++ pa) ++ pv, ⟨[] ++ pa, pv, trodAll_append (hargs _ (fun _ _ => rfl)) (hres _ _ _), hvars _ (fun _ _ => rfl), rfl, ?_, ?_⟩, ?_⟩
    · intro b off hp
      have hin : MemPlace.cell b off ∈ before := by rw [hps]; simpa using hp
      rw [hb.frozen (hlt _ hin)]
      exact hz b off hin
    · intro ha
      have := hn ha
      rw [hps] at this
      simpa using this
    · intro p hp _
      rw [hps]
      simpa using hp
theorem below_of {W W' : World} {M : Mem} (h : Own W M [] W') (hm : Mem.le (Bf.hp W) M) : Below W.heap.size W W' := by
  have hle := hm.trans h.mem
  refine ⟨h.os, h.tape, h.output, ?_, fun k hk => ?_⟩
  · by_cases h0 : W.heap.size = 0
    · omega
    · have : Bf.hp W (W.heap.size - 1) = some W.heap[W.heap.size - 1] := by show W.heap[_]? = _; simp
      have := hle _ _ this
      have := Bf.hp_lt this
      omega
  · have : Bf.hp W k = some W.heap[k] := by show W.heap[_]? = _; simp [hk]
    have h2 := hle _ _ this
    rw [show W'.heap[k]? = some W.heap[k] from h2]
    simp [hk]
end
end Go.Proofs.Ytfmfakgokgcjmaa
