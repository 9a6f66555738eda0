/-
 Elements of several cells of an owned block moved within it by append; a part of it cleared.
 Conditions: none; plain laws over any program.
-/
import Derived.Test.YtlifjajcmnkhfaaGreatUBfDel
import Derived.Test.YtlifjajcmnkhfaaGreatUBfOwnN
namespace Bf
open Go
theorem flatMap_take {α : Type} {f : α → List Value} {sz : Nat} (hf : ∀ x, (f x).length = sz) : ∀ (l : List α) (i : Nat), (l.flatMap f).take (i * sz) = (l.take i).flatMap f
 | [], i => by simp
 | x :: l, 0 => by simp
 | x :: l, i + 1 => by
  have e : (i + 1) * sz = (f x).length + i * sz := by rw [hf, Nat.succ_mul]; omega
  rw [List.flatMap_cons, e, List.take_length_add_append, flatMap_take hf l i, List.take_succ_cons, List.flatMap_cons]
theorem flatMap_drop {α : Type} {f : α → List Value} {sz : Nat} (hf : ∀ x, (f x).length = sz) : ∀ (l : List α) (i : Nat), (l.flatMap f).drop (i * sz) = (l.drop i).flatMap f
 | [], i => by simp
 | x :: l, 0 => by simp
 | x :: l, i + 1 => by
  have e : (i + 1) * sz = (f x).length + i * sz := by rw [hf, Nat.succ_mul]; omega
  rw [List.flatMap_cons, e, List.drop_length_add_append, flatMap_drop hf l i, List.drop_succ_cons]
theorem erase_cellsN {α : Type} {f : α → List Value} {sz : Nat} (hf : ∀ x, (f x).length = sz) {cur : List Value} {l : List α} {i : Nat} (hi : i < l.length) (hc : cur.take (l.length * sz) = l.flatMap f) :
  (cur.take (i * sz) ++ (cur.drop ((i + 1) * sz)).take ((l.length - (i + 1)) * sz) ++ cur.drop ((l.length - 1) * sz)).take ((l.length - 1) * sz) = (l.eraseIdx i).flatMap f ∧ (cur.take (i * sz) ++ (cur.drop ((i + 1) * sz)).take ((l.length - (i + 1)) * sz) ++ cur.drop ((l.length - 1) * sz)).length = cur.length := by
 have hlen : l.length * sz ≤ cur.length := by
  have := congrArg List.length hc
  rw [List.length_take, flatMap_len hf] at this
  omega
 have k1 : i * sz ≤ l.length * sz := Nat.mul_le_mul_right _ (by omega)
 have k2 : (l.length - 1) * sz + sz = l.length * sz := by rw [← Nat.succ_mul]; congr 1; omega
 have k3 : (i + 1) * sz + (l.length - (i + 1)) * sz = l.length * sz := by rw [← Nat.add_mul]; congr 1; omega
 have k4 : (i + 1) * sz = i * sz + sz := Nat.succ_mul _ _
 have h1 : (cur.take (i * sz) ++ (cur.drop ((i + 1) * sz)).take ((l.length - (i + 1)) * sz)).length = (l.length - 1) * sz := by
  rw [List.length_append, List.length_take, List.length_take, List.length_drop]; omega
 refine ⟨?_, ?_⟩
 ·rw [List.take_append_of_le_length (by omega), List.take_of_length_le (by omega)]
  have e1 : cur.take (i * sz) = (l.flatMap f).take (i * sz) := by rw [← hc, List.take_take, Nat.min_eq_left k1]
  have e2 : (cur.drop ((i + 1) * sz)).take ((l.length - (i + 1)) * sz) = (l.flatMap f).drop ((i + 1) * sz) := by
   rw [← hc, List.drop_take]
   congr 1
   omega
  rw [e1, e2, flatMap_take hf, flatMap_drop hf, List.eraseIdx_eq_take_drop_succ, List.flatMap_append]
 ·rw [List.length_append, h1, List.length_drop]; omega
section
variable {r : Option Nat} {P : Program} {E : World} {Q : Exit → Act → World → Prop} {n : Nat} {fr : Fr} {D : List Deferred} {M : Mem} {L L' : List Res} {K : S → Prop}
variable {d : Nat} {ty : TypeId} {pos : String} {aft : Array Edge} {g : Option (Nat × Bool)}
theorem Exec.appendInN {t e sz : TypeId} {i ei : TyI} {x y : Operand} {b N cc j m c2 : Nat} {Ay : Option Addr} {cells : List Value} (hx : ev fr x = some (.slice (some ⟨b, 0, none⟩) N cc)) (hy : ev fr y = some (.slice Ay m c2)) (hA : ∃ a, Ay = some a ∧ (m = 0 ∨ a = ⟨b, j * sz, none⟩))
  (hT : HasTy P t i) (hd : i.desc = .slice e) (hE : HasTy P e ei) (hsz : szOf ei = some sz) (hroom : N + m ≤ cc) (hl1 : (N + m) * sz ≤ cells.length) (hl2 : (j + m) * sz ≤ cells.length) (h1 : ∀ u ∈ (cells.drop (j * sz)).take (m * sz), u.oneCell' = true)
  (hL : Upd L (Bf.box b e cells) (Bf.box b e (cells.take (N * sz) ++ (cells.drop (j * sz)).take (m * sz) ++ cells.drop ((N + m) * sz))) L') (hn : Nat.blt d n = true)
  (k : K ⟨n, (d, .slice (some ⟨b, 0, none⟩) (N + m) cc) :: fr, D, M, L'⟩) :
  Exec r P E Q ⟨n, fr, D, M, L⟩ ⟨some d, .call { callee := .builtin .append, args := #[x, y], argTypes := #[t, t] }, ty, pos, aft, g⟩ K := by
 have hsz' := szOf_eq hsz
 obtain ⟨a0, rfl, ha0⟩ := hA
 refine Exec.of_run (R := fun u M' L'' => u = .slice (some ⟨b, 0, none⟩) (N + m) cc ∧ M' = M ∧ L'' = L') rfl hn (fun a w hh => ?_) (by rintro _ _ _ ⟨rfl, rfl, rfl⟩; exact k)
 obtain ⟨_, jj, hj, hjs, hjb, hjz⟩ := hE
 have hu := hT.1
 rw [hd] at hu
 have hb := hh.own.box_at hL.mem
 have hsize : jj.size = sz := by rw [hjs]; exact hsz'
 have k0 : (N + m) * sz = N * sz + m * sz := Nat.add_mul ..
 have k1 : (j + m) * sz = j * sz + m * sz := Nat.add_mul ..
 have hml : ((cells.drop (j * sz)).take (m * sz)).length = m * sz := by rw [List.length_take, List.length_drop]; omega
 have hcell : ∀ q u, ((cells.drop (j * sz)).take (m * sz))[q]? = some u → w.cell? (a0.add q) = some u := fun q u hq => by
  have hq1 := (List.getElem?_eq_some_iff.1 hq).1
  rcases ha0 with h0 | rfl
  ·subst h0; simp at hq1
  rw [Addr.add_lit, box_cell (hh.own.res (Bf.box b e cells) hL.mem)]
  rw [List.getElem?_take, if_pos (by omega), List.getElem?_drop] at hq
  exact hq
 have hrun := run_append_room_off (P := P) w t ty e jj hu hj b 0 N cc cells.toArray hb a0 m c2 ((cells.drop (j * sz)).take (m * sz)) (by rw [hml, hsize]) hcell h1 hroom (by rw [hsize, hml]; simp; omega)
 rw [hsize, Nat.zero_add, hml, ← k0] at hrun
 refine ⟨_, _, M, _, ?_, hh.own.setRow hL, rfl, rfl, rfl⟩
 simp only [execOp, resolve, invoke, builtin, Sem.run_bind, Sem.run_pure, Result.andThen_ok, List.map_toArray, List.map_cons, List.map_nil, hh.fits.ev hx, hh.fits.ev hy, hrun]
theorem zerosL_len (z : List Value) : ∀ m, (zerosL z m).length = m * z.length
 | 0 => by simp [zerosL]
 | m + 1 => by rw [zerosL, List.length_append, zerosL_len z m, Nat.succ_mul]; omega
theorem zerosL_mem (z : List Value) : ∀ m, ∀ v ∈ zerosL z m, v ∈ z
 | 0, v, h => by simp [zerosL] at h
 | m + 1, v, h => by
  rw [zerosL, List.mem_append] at h
  rcases h with h | h
  ·exact h
  ·exact zerosL_mem z m v h
theorem run_clearN {P : Program} (w : World) (t ty e : TypeId) (i : TypeInfo) (zv : Value) (z : List Value) (ht : P.underlying t = some (.slice e)) (hi : P.info? e = some i) (hz : i.zero = some zv) (hzc : zv.cells = z.toArray) (hz0 : 0 < z.length) (h1 : ∀ u ∈ z, u.oneCell' = true) (b t0 o m c : Nat) (cs : List Value) (hl : o + m * z.length ≤ cs.length) (hm : 0 < m)
  (hb : w.heap[b]? = some (.cells cs.toArray t0 (0, 0))) : (Builtin.clear_ #[t] ty #[.slice (some ⟨b, o, none⟩) m c]).run P w = .ok (.tuple #[]) (w.setRow b (cs.take o ++ zerosL z m ++ cs.drop (o + m * z.length)).toArray) := by
 have hst := run_storeCells_at P b o t0 (zerosL z m) 0 cs.toArray w hb (by simp [zerosL_len]; omega) (fun v hv => h1 v (zerosL_mem z m v hv))
 simp only [Nat.add_zero, zerosL_len] at hst
 have hzz : (Builtin.zeroCells z.toArray m).toList = zerosL z m := by
  have := zerosL_eq z hz0 m
  simpa [Builtin.zeroCells] using this
 cases m with
 | zero => omega
 | succ m =>
  simp [Builtin.clear_, run_underlying ht, zeroValue, typeInfo, hi, hz, hzc, hzz, hst]
theorem Exec.clearAtN {t e : TypeId} {i ei : TyI} {x : Operand} {b t0 o m c : Nat} {zv : Value} {z cs : List Value} (hx : ev fr x = some (.slice (some ⟨b, o, none⟩) m c)) (hT : HasTy P t i) (hd : i.desc = .slice e) (hE : HasTy P e ei) (hz : zOf ei = some zv) (hzc : zv.cells = z.toArray) (hz0 : 0 < z.length) (h1 : ∀ u ∈ z, u.oneCell' = true)
  (hL : Upd L (Bf.box b t0 cs) (Bf.box b t0 (cs.take o ++ zerosL z m ++ cs.drop (o + m * z.length))) L') (hl : o + m * z.length ≤ cs.length) (hm : 0 < m) (k : K ⟨n, fr, D, M, L'⟩) :
  Exec r P E Q ⟨n, fr, D, M, L⟩ ⟨none, .call { callee := .builtin .clear, args := #[x], argTypes := #[t] }, ty, pos, aft, g⟩ K :=
 Exec.of_runN rfl (fun a w hh => by
  obtain ⟨_, j, hj, hjs, hjb, hjz⟩ := hE
  have hu := hT.1
  rw [hd] at hu
  have hb := hh.own.box_at hL.mem
  have hrun := run_clearN w t ty e j zv z hu hj (by rw [hjz, zOf_eq hz]) hzc hz0 h1 b t0 o m c cs hl hm hb
  refine ⟨.tuple #[], _, ?_, hh.own.setRow hL⟩
  simp only [execOp, resolve, invoke, builtin, Sem.run_bind, Sem.run_pure, Result.andThen_ok, List.map_toArray, List.map_cons, List.map_nil, hh.fits.ev hx, hrun]) k
end
end Bf

