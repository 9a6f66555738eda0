/-
  The journal: the row of JournalOpenSpec.
  Conditions: none.
-/
import Derived.Test.YtkbggengagockaaBfRowU
import Derived.Test.YtkbggengagockaaRows
import Derived.ProofKit
import Derived.Test.YtkbggengagockaaP3c
/-
  The journal: the law JournalOpenSpec walked.
  Conditions: none.
-/
namespace Go.Proofs.Ytkbggengagockaa
open Go Bf
attribute [local irreducible] Tr Exec Stab HasTy Go.Addr.add IntKind.wrap
set_option maxHeartbeats 4000000 in
theorem openspec_fn (M : Mem) (v : Value) (d : Dsk) (h : RDisk M v d) :
    Fn0 Try.prog 3 [v] M (fun r _ => r = .bool true) := by
  have hD := h
  obtain ⟨A, c, B, k, rfl, h1, h2⟩ := h
  refine Fn.intro Try.func3 rfl rfl Try.ntmps3 rfl fun E F => ?_
  repeat (first | ((with_reducible refine Tr.step rfl ?_); (first | ((with_reducible refine Knd.assign ?_); (refine Exec.stab rfl (Stab.assign rfl) rfl ?_)) | ((with_reducible refine Knd.box ?_); (first | (refine Exec.box rfl rfl (fun b => ?_)) | (refine Exec.box1 rfl (by first | rfl | assumption) rfl (fun b => ?_)))))) | (with_reducible refine Tr.next ?_) | (with_reducible refine Tr.seq ?_) | (with_reducible refine Tr.region ?_) | (with_reducible refine Tr.nil ?_))
  ((refine Tr.step rfl ?_)); refine Exec.call0 rfl (sane_jfn M) rfl ?_
  rintro _ M1 hm1 rfl
  repeat (first | ((with_reducible refine Tr.step rfl ?_); (first | ((with_reducible refine Knd.load ?_); ((refine Exec.stab rfl (Stab.loadW rfl (tysOk.get rfl) rfl (by repeat (first | exact Has.here | apply Has.there)) rfl) rfl ?_))) | ((with_reducible refine Knd.unOp ?_); ((refine Exec.stab rfl (Stab.not rfl) rfl ?_))))) | (with_reducible refine Tr.next ?_) | (with_reducible refine Tr.seq ?_) | (with_reducible refine Tr.region ?_) | (with_reducible refine Tr.nil ?_) | (with_reducible refine Tr.skip ?_) | (refine Tr.cond_bf rfl (by first | (with_reducible rfl) | (with_reducible assumption) | (with_reducible exact Bool.not_true) | (with_reducible exact Bool.not_false)) ?_))
  ((refine Tr.step rfl ?_)); refine Exec.call0 rfl (few_jfn M1 _ d none 0 [] (hD.mono hm1) (SlOf.nil _ _ _) (by decide)) rfl ?_
  rintro _ _ _ ⟨rfl, rfl⟩
  by_cases hf : fewP d []
  rotate_left
  · rw [decide_eq_false hf]
    repeat (first | ((with_reducible refine Tr.step rfl ?_); (first | ((with_reducible refine Knd.assign ?_); (refine Exec.stab rfl (Stab.assign rfl) rfl ?_)) | ((with_reducible refine Knd.unOp ?_); ((refine Exec.stab rfl (Stab.not rfl) rfl ?_))))) | (with_reducible refine Tr.next ?_) | (with_reducible refine Tr.seq ?_) | (with_reducible refine Tr.region ?_) | (with_reducible refine Tr.nil ?_) | (with_reducible refine Tr.ret ?_) | (with_reducible refine Tr.then_ret ?_) | (refine Tr.cond_bt rfl (by first | (with_reducible rfl) | (with_reducible assumption) | (with_reducible exact Bool.not_true) | (with_reducible exact Bool.not_false)) ?_))
    (refine Tr.done (by first | exact .inl rfl | exact .inr rfl) rfl (by repeat (first | exact RVs.nil | (apply RVs.cons; (exact RV.tmp rfl)))) (by first | exact Mem.le.refl _ | assumption) (by exact ⟨[_], rfl⟩) ⟨rfl, ?_⟩)
    rfl
  rw [decide_eq_true hf]
  repeat (first | ((with_reducible refine Tr.step rfl ?_); (first | ((with_reducible refine Knd.load ?_); ((refine Exec.stab rfl (Stab.loadW rfl (tysOk.get rfl) rfl (by repeat (first | exact Has.here | apply Has.there)) rfl) rfl ?_))) | ((with_reducible refine Knd.unOp ?_); ((refine Exec.stab rfl (Stab.not rfl) rfl ?_))))) | (with_reducible refine Tr.next ?_) | (with_reducible refine Tr.seq ?_) | (with_reducible refine Tr.region ?_) | (with_reducible refine Tr.nil ?_) | (with_reducible refine Tr.skip ?_) | (refine Tr.cond_bf rfl (by first | (with_reducible rfl) | (with_reducible assumption) | (with_reducible exact Bool.not_true) | (with_reducible exact Bool.not_false)) ?_))
  ((refine Tr.step rfl ?_)); refine Exec.call0 rfl (open_fn M1 _ d (hD.mono hm1)) rfl ?_
  rintro _ M2 hm2 hP
  have hra := ropen_fn M2 _ d (hD.mono (hm1.trans hm2))
  generalize openF d = p at hP hra
  obtain ⟨x, e⟩ := p
  obtain ⟨A2, c2, rfl, hx⟩ := hP.openJ
  repeat (first | ((with_reducible refine Tr.step rfl ?_); (first | ((with_reducible refine Knd.move ?_); (refine Exec.stab rfl (Stab.move rfl) rfl ?_)) | ((with_reducible refine Knd.assign ?_); (refine Exec.stab rfl (Stab.assign rfl) rfl ?_)) | ((with_reducible refine Knd.load ?_); ((refine Exec.stab rfl (Stab.loadW rfl (tysOk.get rfl) rfl (by repeat (first | exact Has.here | apply Has.there)) rfl) rfl ?_))) | ((with_reducible refine Knd.store ?_); ((refine Exec.storeW rfl rfl (tysOk.get rfl) (by repeat (first | exact Upd.here | apply Upd.there)) rfl rfl (by repeat (first | exact AllOne.nil | refine AllOne.cons (by first | rfl | assumption) ?_)) ?_))) | ((with_reducible refine Knd.alloc ?_); (first | (refine Exec.alloc (tysOk.get rfl) rfl rfl (fun b => ?_)) | (refine Exec.alloc1 (tysOk.get rfl) rfl rfl rfl (fun b => ?_)))) | ((with_reducible refine Knd.extract ?_); (refine Exec.stab rfl (Stab.extract rfl rfl) rfl ?_)))) | (with_reducible refine Tr.next ?_) | (with_reducible refine Tr.seq ?_) | (with_reducible refine Tr.region ?_) | (with_reducible refine Tr.nil ?_))
  ((refine Tr.step rfl ?_)); refine Exec.call0 rfl (hra) rfl ?_
  rintro _ M3 hm3 hP2
  obtain ⟨A3, c3, rfl, hx2⟩ := hP2.openJ
  have hm13 := hm1.trans (hm2.trans hm3)
  repeat (first | ((with_reducible refine Tr.step rfl ?_); (first | ((with_reducible refine Knd.move ?_); (refine Exec.stab rfl (Stab.move rfl) rfl ?_)) | ((with_reducible refine Knd.assign ?_); (refine Exec.stab rfl (Stab.assign rfl) rfl ?_)) | ((with_reducible refine Knd.load ?_); ((refine Exec.stab rfl (Stab.loadW rfl (tysOk.get rfl) rfl (by repeat (first | exact Has.here | apply Has.there)) rfl) rfl ?_))) | ((with_reducible refine Knd.store ?_); ((refine Exec.storeW rfl rfl (tysOk.get rfl) (by repeat (first | exact Upd.here | apply Upd.there)) rfl rfl (by repeat (first | exact AllOne.nil | refine AllOne.cons (by first | rfl | assumption) ?_)) ?_))) | ((with_reducible refine Knd.alloc ?_); (first | (refine Exec.alloc (tysOk.get rfl) rfl rfl (fun b => ?_)) | (refine Exec.alloc1 (tysOk.get rfl) rfl rfl rfl (fun b => ?_)))) | ((with_reducible refine Knd.extract ?_); (refine Exec.stab rfl (Stab.extract rfl rfl) rfl ?_)))) | (with_reducible refine Tr.next ?_) | (with_reducible refine Tr.seq ?_) | (with_reducible refine Tr.region ?_) | (with_reducible refine Tr.nil ?_))
  ((refine Tr.step rfl ?_)); refine Exec.call0 rfl (sameJ_y M3 _ _ x (hx.mono hm3) hx2) rfl ?_
  rintro _ _ _ ⟨rfl, rfl⟩
  repeat (first | ((with_reducible refine Tr.step rfl ?_); (first | ((with_reducible refine Knd.move ?_); (refine Exec.stab rfl (Stab.move rfl) rfl ?_)) | ((with_reducible refine Knd.assign ?_); (refine Exec.stab rfl (Stab.assign rfl) rfl ?_)) | ((with_reducible refine Knd.pick ?_); ((refine Exec.stab rfl (Stab.pick_t rfl (by first | (with_reducible rfl) | (with_reducible assumption) | (with_reducible exact Bool.not_true) | (with_reducible exact Bool.not_false)) rfl) rfl ?_))))) | (with_reducible refine Tr.next ?_) | (with_reducible refine Tr.nil ?_) | ((refine Tr.guard_l rfl rfl rfl (by first | (with_reducible rfl) | (with_reducible assumption) | (with_reducible exact Bool.not_true) | (with_reducible exact Bool.not_false)) ?_); (first | ((with_reducible refine Knd.move ?_); (refine Exec.stab rfl (Stab.move rfl) rfl ?_)) | ((with_reducible refine Knd.binOp ?_); ((refine Exec.stab rfl (Stab.int rfl rfl rfl) rfl ?_))))) | (with_reducible refine Tr.ret ?_))
  (refine Tr.done (by first | exact .inl rfl | exact .inr rfl) rfl (by repeat (first | exact RVs.nil | (apply RVs.cons; (exact RV.tmp rfl)))) (by first | exact Mem.le.refl _ | assumption) (by exact ⟨[_, _, _], rfl⟩) ⟨rfl, ?_⟩)
  exact congrArg Value.bool (decide_eq_true rfl)
end Go.Proofs.Ytkbggengagockaa
/-
  The journal: how the arguments of the laws read, where what they read is bounded.
  Conditions: none.
-/
namespace Go.Proofs.Ytkbggengagockaa
open Go Bf
open Go.ChangeShapes Go.WideShapes Go.ChangeAt Go.RowKit
section
variable {H : Type}
theorem bulk_one (d : DataW H) : 1 ≤ Rows.uptoBulk d := by
  cases d with
  | lit l => cases l <;> simp [Rows.uptoBulk]
  | nil => simp [Rows.uptoBulk]
  | ptr d => simp [Rows.uptoBulk]
  | slice elems spare => simp [Rows.uptoBulk]
  | agg parts => simp [Rows.uptoBulk]
  | iface t d => simp [Rows.uptoBulk]
  | map entries => simp [Rows.uptoBulk]
  | held h => simp [Rows.uptoBulk]
theorem bulk_part {d : DataW H} : ∀ {l : List (DataW H)}, d ∈ l → Rows.uptoBulk d ≤ Rows.uptoBulkAll l
  | x :: r, h => by
    simp only [Rows.uptoBulkAll]
    rcases List.mem_cons.1 h with e | e
    · subst e; omega
    · have := bulk_part e; omega
theorem bulk_len : ∀ (l : List (DataW H)), l.length ≤ Rows.uptoBulkAll l
  | [] => Nat.zero_le _
  | x :: r => by
    have h1 := bulk_one x
    have h2 := bulk_len r
    simp only [Rows.uptoBulkAll, List.length_cons]; omega
theorem bulk_sum {α : Type} (m : α → Nat) : ∀ (xs : List α) (es : List (DataW H)), es.length = xs.length → (∀ (i : Nat) z d, xs[i]? = some z → es[i]? = some d → m z ≤ Rows.uptoBulk d) → (xs.map m).sum ≤ Rows.uptoBulkAll es
  | [], _, _, _ => Nat.zero_le _
  | x :: xs, [], h, _ => by cases h
  | x :: xs, e :: es, h, hm => by
    have h0 := hm 0 x e rfl rfl
    have ih := bulk_sum m xs es (by simpa using h) fun i z d hz hd => hm (i + 1) z d (by simpa using hz) (by simpa using hd)
    simp only [List.map_cons, List.sum_cons, Rows.uptoBulkAll]
    omega
theorem small_le {ds : List (DataW H)} (h : Rows.uptoSmall H ds = true) {j : Nat} {d : DataW H} (hd : ds[j]? = some d) : Rows.uptoBulk d ≤ 1048576 := by
  have h1 : Rows.uptoBulkAll ds ≤ 1048576 := of_decide_eq_true h
  have h2 := bulk_part (List.mem_of_getElem? hd)
  omega
end
theorem ownT' : ownKnob Try.prog.godebug = none := by kernel_rfl
theorem laidT' : laidOutB Try.prog = true := by kernel_rfl
theorem u3 : Try.prog.underlying 3 = some (.int .i64) := (tysOk.get (t := 3) rfl).1
theorem u5 : Try.prog.underlying 5 = some (.int .u8) := (tysOk.get (t := 5) rfl).1
theorem u22 : Try.prog.underlying 22 = some (.slice 35) := (tysOk.get (t := 22) rfl).1
theorem u35 : Try.prog.underlying 35 = some (.slice 5) := (tysOk.get (t := 35) rfl).1
theorem c3 : Try.prog.cellsOf 3 = 1 := by kernel_rfl
theorem c5 : Try.prog.cellsOf 5 = 1 := by kernel_rfl
theorem c22 : Try.prog.cellsOf 22 = 1 := by kernel_rfl
theorem c29 : Try.prog.cellsOf 29 = 3 := by kernel_rfl
theorem c35 : Try.prog.cellsOf 35 = 1 := by kernel_rfl
theorem len1 {l : List Value} (h : l.length = 1) : ∃ a, l = [a] := by
  match l, h with
  | [a], _ => exact ⟨a, rfl⟩
theorem len2 {l : List Value} (h : l.length = 2) : ∃ a b, l = [a, b] := by
  match l, h with
  | [a, b], _ => exact ⟨a, b, rfl⟩
theorem len3 {l : List Value} (h : l.length = 3) : ∃ a b c, l = [a, b, c] := by
  match l, h with
  | [a, b, c], _ => exact ⟨a, b, c, rfl⟩
theorem len4 {l : List Value} (h : l.length = 4) : ∃ a b c d, l = [a, b, c, d] := by
  match l, h with
  | [a, b, c, d], _ => exact ⟨a, b, c, d, rfl⟩
section
variable {H : Type} {enc : TypeId × Value → H} {W : World} {base : Nat} {v : Value} {w : World} {sp : Nat → Bool} {held : Bool}
theorem open_recs {fuel : Nat} {v : Value} {x : DataW H × List MemPlace} (h : DataW.trod enc Try.prog w 0 sp held fuel 22 [v] = some x) : ∃ (l : List (List UInt8)) (A : Option Addr) (c : Nat), v = .slice A l.length c ∧ SlOf 1 RSec (Bf.hp w) (.slice A l.length c) l ∧ tot l ≤ Rows.uptoBulk x.1 := by
  obtain ⟨l, A, c, rfl, hs, he⟩ := read_slOfD (R := RSec) (fun b => 1 + b.length) Rows.uptoBulk u22 c35 (by omega) (fun f cs y _ hl hy => by
    obtain ⟨u, rfl⟩ := len1 hl
    obtain ⟨bs, A, c, rfl, hb, hbs⟩ := read_bytesD u35 u5 c5 hy
    refine ⟨by intro u hu; simp at hu; subst hu; rfl, bs, ⟨A, c, rfl, hb⟩, ?_⟩
    rcases hbs with rfl | ⟨es, spare, e1, e2⟩
    · exact bulk_one _
    · rw [e1, Rows.uptoBulk]
      have := bulk_len es
      omega) h
  refine ⟨l, A, c, rfl, hs, ?_⟩
  rcases he with rfl | ⟨es, spare, e1, e2, e3⟩
  · exact Nat.zero_le _
  · rw [e1, Rows.uptoBulk]
    have := bulk_sum (fun b : List UInt8 => 1 + b.length) l es e2 e3
    show (l.map fun b => 1 + b.length).sum ≤ _
    omega
theorem open_jr {cs : List Value} {fuel : Nat} {x : DataW H × List MemPlace} (h : DataW.trod enc Try.prog w 0 sp held fuel 29 cs = some x) : ∃ j : Jr, RJr (Bf.hp w) (.agg cs.toArray) j ∧ tot j.rcs ≤ Rows.uptoBulk x.1 := by
  obtain ⟨hl, f, parts, -, hx, hf⟩ := read_structD Try.underlying29 h
  rw [c29] at hl
  obtain ⟨a, b, c, rfl⟩ := len3 hl
  obtain ⟨y0, -, h0⟩ : ∃ y, parts[0]? = some y.1 ∧ DataW.trod enc Try.prog w 0 sp held f 3 (([a, b, c].drop 0).take (Try.prog.cellsOf 3)) = some y := hf 0 _ rfl
  rw [c3] at h0
  obtain ⟨y1, -, h1⟩ : ∃ y, parts[1]? = some y.1 ∧ DataW.trod enc Try.prog w 0 sp held f 3 (([a, b, c].drop 1).take (Try.prog.cellsOf 3)) = some y := hf 1 _ rfl
  rw [c3] at h1
  obtain ⟨y2, p2, h2⟩ : ∃ y, parts[2]? = some y.1 ∧ DataW.trod enc Try.prog w 0 sp held f 22 (([a, b, c].drop 2).take (Try.prog.cellsOf 22)) = some y := hf 2 _ rfl
  rw [c22] at h2
  obtain ⟨n, e0, -⟩ := read_int u3 h0
  obtain ⟨m, e1, -⟩ := read_int u3 h1
  cases e0
  cases e1
  obtain ⟨l, A, k, rfl, hs, ht⟩ := open_recs h2
  refine ⟨⟨n, m, l⟩, ⟨A, k, rfl, hs⟩, ?_⟩
  have := bulk_part (List.mem_of_getElem? p2)
  rw [hx, Rows.uptoBulk]
  show tot l ≤ _
  omega
theorem arg_jr {d : DataW H} (h : ArgD enc Try.prog W base 29 v d) : ∃ j : Jr, RJr (Bf.hp W) v j ∧ tot j.rcs ≤ Rows.uptoBulk d := by
  obtain ⟨k0, f0, p, g0⟩ := h
  unfold Value.okWide at k0
  rw [Try.underlying29] at k0
  obtain ⟨cs, rfl, -, -⟩ := k0
  obtain ⟨j, hj, ht⟩ := open_jr g0
  exact ⟨j, by simpa [Value.cells] using hj, ht⟩
theorem arg_bytes {d : DataW H} (h : ArgD enc Try.prog W base 35 v d) : ∃ (bs : List UInt8) (A : Option Addr) (c : Nat), v = .slice A bs.length c ∧ BSl (Bf.hp W) (.slice A bs.length c) bs := by
  obtain ⟨k0, f0, p, g0⟩ := h
  obtain ⟨A, len, cap, rfl⟩ := okWide_slice u35 k0
  obtain ⟨bs, A', c', e, hb, -⟩ := read_bytesD u35 u5 c5 (by simpa [Value.cells] using g0)
  exact ⟨bs, A', c', e, hb⟩
end
end Go.Proofs.Ytkbggengagockaa
/-
  The journal: how a disk as an argument reads.
  Conditions: none.
-/
namespace Go.Proofs.Ytkbggengagockaa
open Go Bf
open Go.ChangeShapes Go.WideShapes Go.ChangeAt Go.RowKit
theorem u4 : Try.prog.underlying 4 = some .bool := (tysOk.get (t := 4) rfl).1
theorem u23 : Try.prog.underlying 23 = some (.slice 78) := (tysOk.get (t := 23) rfl).1
theorem c4 : Try.prog.cellsOf 4 = 1 := by kernel_rfl
theorem c23 : Try.prog.cellsOf 23 = 1 := by kernel_rfl
theorem c25 : Try.prog.cellsOf 25 = 4 := by kernel_rfl
theorem c78 : Try.prog.cellsOf 78 = 2 := by kernel_rfl
section
variable {H : Type} {enc : TypeId × Value → H} {W : World} {base : Nat} {v : Value} {w : World} {sp : Nat → Bool} {held : Bool}
theorem open_disk {cs : List Value} {fuel : Nat} {x : DataW H × List MemPlace} (h : DataW.trod enc Try.prog w 0 sp held fuel 25 cs = some x) : ∃ d : Dsk, RDisk (Bf.hp w) (.agg cs.toArray) d := by
  obtain ⟨hl, f, hf⟩ := read_struct Try.underlying25 h
  rw [c25] at hl
  obtain ⟨a, b, c, e, rfl⟩ := len4 hl
  obtain ⟨y0, h0⟩ : ∃ y, DataW.trod enc Try.prog w 0 sp held f 22 (([a, b, c, e].drop 0).take (Try.prog.cellsOf 22)) = some y := hf 0 _ rfl
  rw [c22] at h0
  obtain ⟨y1, h1⟩ : ∃ y, DataW.trod enc Try.prog w 0 sp held f 23 (([a, b, c, e].drop 1).take (Try.prog.cellsOf 23)) = some y := hf 1 _ rfl
  rw [c23] at h1
  obtain ⟨y2, h2⟩ : ∃ y, DataW.trod enc Try.prog w 0 sp held f 3 (([a, b, c, e].drop 2).take (Try.prog.cellsOf 3)) = some y := hf 2 _ rfl
  rw [c3] at h2
  obtain ⟨y3, h3⟩ : ∃ y, DataW.trod enc Try.prog w 0 sp held f 4 (([a, b, c, e].drop 3).take (Try.prog.cellsOf 4)) = some y := hf 3 _ rfl
  rw [c4] at h3
  obtain ⟨n, e2, -⟩ := read_int u3 h2
  obtain ⟨q, e3⟩ := read_bool u4 h3
  cases e2
  cases e3
  obtain ⟨sec, A, ca, rfl, hs⟩ := read_slOf (R := RSec) u22 c35 (by omega) (fun f cs y hl hy => by
    obtain ⟨u, rfl⟩ := len1 hl
    obtain ⟨bs, A, c, rfl, hb⟩ := read_bytes u35 u5 c5 hy
    exact ⟨by intro u hu; simp at hu; subst hu; rfl, bs, A, c, rfl, hb⟩) h0
  obtain ⟨pen, B, cb, rfl, hp⟩ := read_slOf (R := RWr) u23 c78 (by omega) (fun f cs y hl hy => by
    obtain ⟨u, v, rfl⟩ := len2 hl
    obtain ⟨_, g, hg⟩ := read_struct Try.underlying78 hy
    obtain ⟨z0, k0⟩ : ∃ y, DataW.trod enc Try.prog w 0 sp held g 3 (([u, v].drop 0).take (Try.prog.cellsOf 3)) = some y := hg 0 _ rfl
    rw [c3] at k0
    obtain ⟨z1, k1⟩ : ∃ y, DataW.trod enc Try.prog w 0 sp held g 35 (([u, v].drop 1).take (Try.prog.cellsOf 35)) = some y := hg 1 _ rfl
    rw [c35] at k1
    obtain ⟨m, e5, -⟩ := read_int u3 k0
    cases e5
    obtain ⟨bs, A, c, rfl, hb⟩ := read_bytes u35 u5 c5 k1
    exact ⟨by intro u hu; simp at hu; rcases hu with rfl | rfl <;> rfl, (m, bs), A, c, rfl, hb⟩) h1
  exact ⟨⟨sec, pen, n, q⟩, A, ca, B, cb, rfl, hs, hp⟩
theorem arg_disk (h : Arg enc Try.prog W base 25 v) : ∃ d, RDisk (Bf.hp W) v d := by
  obtain ⟨k0, f0, x, g0⟩ := h
  unfold Value.okWide at k0
  rw [Try.underlying25] at k0
  obtain ⟨cs, rfl, -, -⟩ := k0
  obtain ⟨dk, hdk⟩ := open_disk g0
  exact ⟨dk, by simpa [Value.cells] using hdk⟩
end
end Go.Proofs.Ytkbggengagockaa
/-
  The journal: the row of JournalOpenSpec.
  Conditions: none.
-/
namespace Go.Proofs.Ytkbggengagockaa
open Go Bf
open Go.ChangeShapes Go.WideShapes Go.ChangeAt Go.RowKit
set_option maxRecDepth 100000 in
theorem openspec_lifted (os : Os) (started : os.Started) (H : Type) (enc : TypeId × Value → H) :
    ReturnsInHanded {} Try.checked os 3 .any (Rows.journalOpenSpecSpec.pre6 enc Try.prog Try.f3 Rows.journalOpenSpecRow.domain false) (Rows.journalOpenSpecSpec.post enc Try.prog Try.f3 false true false false) :=
  lift_true (C := Try.checked) (ts := [25]) (tb := 4) started ownT' (by kernel_rfl) Try.func3
    (ChangeSpec.witness6 (enc := enc) (C := Try.checked) false ⟨#[], #[.agg #[.slice none 0 0, .slice none 0 0, .int .i64 0, .bool false]], []⟩ 8 (by kernel_rfl) (by kernel_rfl) (by kernel_rfl) (by kernel_rfl))
    (by rw [Try.params3]) laidT' (by kernel_rfl) rfl (fun ds h => match ds, h with | [_], _ => rfl) rfl Try.underlying4
    (fun W base vs hl ha => by
      obtain ⟨v0, rfl⟩ := len1 hl
      obtain ⟨d, hd⟩ := arg_disk (ha 0 25 v0 rfl rfl)
      exact openspec_fn _ _ d hd)
theorem journalOpenSpec_holds : Rows.JournalOpenSpecSaid :=
  OpenClaim.holds_of_wide 3 Try.f3 rfl rfl rfl rfl rfl rfl rfl ⟨rfl, rfl, rfl, rfl, rfl⟩ rfl rfl rfl rfl rfl (by kernel_rfl) Try.func3 (by kernel_rfl)
    (of_decide_eq_true (by kernel_rfl)) (by unfold Func.isWrapper; first | (rw [if_pos (by decide +kernel)]; kernel_rfl) | (rw [if_neg (by decide +kernel)]; exact ⟨rfl, rfl⟩))
    (fun os started H enc _ => openspec_lifted os started H enc)
end Go.Proofs.Ytkbggengagockaa
