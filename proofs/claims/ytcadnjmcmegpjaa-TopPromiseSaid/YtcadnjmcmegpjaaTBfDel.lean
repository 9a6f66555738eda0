/-
 Elements of an owned block moved within it by append; a part of it cleared.
 Conditions: none; plain laws over any program.
-/
import Derived.Test.YtcadnjmcmegpjaaTBfClear
import Derived.Test.YtcadnjmcmegpjaaTBfQueue
import Derived.Test.YtcadnjmcmegpjaaTBfGrow
import Derived.Test.YtcadnjmcmegpjaaTBfRepB
namespace Bf
open Go
section
variable {r : Option Nat} {P : Program} {E : World} {Q : Exit → Act → World → Prop} {n : Nat} {fr : Fr} {D : List Deferred} {M : Mem} {L L' : List Res} {K : S → Prop}
variable {d : Nat} {ty : TypeId} {pos : String} {aft : Array Edge} {g : Option (Nat × Bool)}
theorem Exec.appendIn {t e : TypeId} {i ei : TyI} {x y : Operand} {b N cc j m c2 : Nat} {Ay : Option Addr} {cells : List Value} (hx : ev fr x = some (.slice (some ⟨b, 0, none⟩) N cc)) (hy : ev fr y = some (.slice Ay m c2)) (hA : ∃ a, Ay = some a ∧ (m = 0 ∨ a = ⟨b, j, none⟩))
  (hT : HasTy P t i) (hd : i.desc = .slice e) (hE : HasTy P e ei) (hsz : szOf ei = some 1) (hroom : N + m ≤ cc) (hl1 : N + m ≤ cells.length) (hl2 : j + m ≤ cells.length) (h1 : ∀ u ∈ (cells.drop j).take m, u.oneCell' = true)
  (hL : Upd L (Bf.box b e cells) (Bf.box b e (cells.take N ++ (cells.drop j).take m ++ cells.drop (N + m))) L') (hn : Nat.blt d n = true)
  (k : K ⟨n, (d, .slice (some ⟨b, 0, none⟩) (N + m) cc) :: fr, D, M, L'⟩) :
  Exec r P E Q ⟨n, fr, D, M, L⟩ ⟨some d, .call { callee := .builtin .append, args := #[x, y], argTypes := #[t, t] }, ty, pos, aft, g⟩ K := by
 have hsz' := szOf_eq hsz
 obtain ⟨a0, rfl, ha0⟩ := hA
 refine Exec.of_run (R := fun u M' L'' => u = .slice (some ⟨b, 0, none⟩) (N + m) cc ∧ M' = M ∧ L'' = L') rfl hn (fun a w hh => ?_) (by rintro _ _ _ ⟨rfl, rfl, rfl⟩; exact k)
 obtain ⟨_, jj, hj, hjs, hjb, hjz⟩ := hE
 have hu := hT.1
 rw [hd] at hu
 have hb := hh.own.box_at hL.mem
 have hsize : jj.size = 1 := by rw [hjs]; exact hsz'
 have hml : ((cells.drop j).take m).length = m := by rw [List.length_take, List.length_drop]; omega
 have hcell : ∀ q u, ((cells.drop j).take m)[q]? = some u → w.cell? (a0.add q) = some u := fun q u hq => by
  have hq1 := (List.getElem?_eq_some_iff.1 hq).1
  rcases ha0 with h0 | rfl
  ·omega
  rw [Addr.add_lit, box_cell (hh.own.res (Bf.box b e cells) hL.mem)]
  rw [List.getElem?_take, if_pos (by omega), List.getElem?_drop] at hq
  exact hq
 have hrun := run_append_room_off (P := P) w t ty e jj hu hj b 0 N cc cells.toArray hb a0 m c2 ((cells.drop j).take m) (by rw [hml, hsize, Nat.mul_one]) hcell h1 hroom (by rw [hsize, hml]; simp; omega)
 rw [hsize, Nat.mul_one, Nat.zero_add, hml] at hrun
 refine ⟨_, _, M, _, ?_, hh.own.setRow hL, rfl, rfl, rfl⟩
 simp only [execOp, resolve, invoke, builtin, Sem.run_bind, Sem.run_pure, Result.andThen_ok, List.map_toArray, List.map_cons, List.map_nil, hh.fits.ev hx, hh.fits.ev hy, hrun]
theorem run_clearAt {P : Program} (w : World) (t ty e : TypeId) (i : TypeInfo) (z : Value) (ht : P.underlying t = some (.slice e)) (hi : P.info? e = some i) (hz : i.zero = some z) (hzc : z.cells = #[z]) (h1 : z.oneCell' = true) (b t0 o m c : Nat) (cs : List Value) (hl : o + m ≤ cs.length) (hm : 0 < m)
  (hb : w.heap[b]? = some (.cells cs.toArray t0 (0, 0))) : (Builtin.clear_ #[t] ty #[.slice (some ⟨b, o, none⟩) m c]).run P w = .ok (.tuple #[]) (w.setRow b (cs.take o ++ List.replicate m z ++ cs.drop (o + m)).toArray) := by
 have hst := run_storeCells_at P b o t0 (List.replicate m z) 0 cs.toArray w hb (by simp; omega) (by intro v hv; rw [List.eq_of_mem_replicate hv]; exact h1)
 simp only [Nat.add_zero] at hst
 cases m with
 | zero => omega
 | succ m =>
  simp [Builtin.clear_, run_underlying ht, zeroValue, typeInfo, hi, hz, hzc, zeroCells_one, hst]
theorem Exec.clearAt {t e : TypeId} {i ei : TyI} {x : Operand} {b t0 o m c : Nat} {z : Value} {cs : List Value} (hx : ev fr x = some (.slice (some ⟨b, o, none⟩) m c)) (hT : HasTy P t i) (hd : i.desc = .slice e) (hE : HasTy P e ei) (hz : zOf ei = some z) (hzc : z.cells = #[z]) (h1 : z.oneCell' = true)
  (hL : Upd L (Bf.box b t0 cs) (Bf.box b t0 (cs.take o ++ List.replicate m z ++ cs.drop (o + m))) L') (hl : o + m ≤ cs.length) (hm : 0 < m) (k : K ⟨n, fr, D, M, L'⟩) :
  Exec r P E Q ⟨n, fr, D, M, L⟩ ⟨none, .call { callee := .builtin .clear, args := #[x], argTypes := #[t] }, ty, pos, aft, g⟩ K :=
 Exec.of_runN rfl (fun a w hh => by
  obtain ⟨_, j, hj, hjs, hjb, hjz⟩ := hE
  have hu := hT.1
  rw [hd] at hu
  have hb := hh.own.box_at hL.mem
  have hrun := run_clearAt w t ty e j z hu hj (by rw [hjz, zOf_eq hz]) hzc h1 b t0 o m c cs hl hm hb
  refine ⟨.tuple #[], _, ?_, hh.own.setRow hL⟩
  simp only [execOp, resolve, invoke, builtin, Sem.run_bind, Sem.run_pure, Result.andThen_ok, List.map_toArray, List.map_cons, List.map_nil, hh.fits.ev hx, hrun]) k
end
end Bf

