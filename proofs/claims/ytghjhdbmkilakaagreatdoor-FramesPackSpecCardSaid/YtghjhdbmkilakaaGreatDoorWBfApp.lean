/-
  append of a string's bytes onto a slice that the walk owns.
  Conditions: none; plain laws over any program.
-/
import Derived.Test.YtghjhdbmkilakaaGreatDoorWBfByte
import Derived.Lib.AppendStr
namespace Bf
open Go Go.Lib
section
variable {r : Option Nat} {P : Program} {E : World} {Q : Exit → Act → World → Prop} {n : Nat} {fr : Fr} {D : List Deferred} {M : Mem} {L L' : List Res} {K : S → Prop}
variable {d : Nat} {ty : TypeId} {pos : String} {aft : Array Edge} {g : Option (Nat × Bool)}
theorem strCells_byteV (l : List UInt8) : strCells ⟨l.toArray⟩ = byteV l := by simp [strCells, byteV]
theorem Exec.appendStr {t u e : TypeId} {i ui ei : TyI} {x y : Operand} {A : Option Addr} {N c : Nat} {xs : List Value} {l : List UInt8} (hx : ev fr x = some (.slice A N c)) (hy : ev fr y = some (.string ⟨l.toArray⟩))
    (hT : HasTy P t i) (hd : i.desc = .slice e) (hU : HasTy P u ui) (hud : ui.desc = .string) (hE : HasTy P e ei) (hsz : szOf ei = some 1) (hbb : byOf ei = some 1) (hz : zOf ei = some (.int .u8 0)) (hL : Del L (ownS e 1 A N c xs) L')
    (hb : N + l.length ≤ 140737488355328) (hn : Nat.blt d n = true)
    (k : ∀ A' c', c' ≤ 9223372036854775807 → K ⟨n, (d, .slice A' (N + l.length) c') :: fr, D, M, ownS e 1 A' (N + l.length) c' (xs ++ byteV l) :: L'⟩) :
    Exec r P E Q ⟨n, fr, D, M, L⟩ ⟨some d, .call { callee := .builtin .append, args := #[x, y], argTypes := #[t, u] }, ty, pos, aft, g⟩ K := by
  have hsz' := szOf_eq hsz
  have hbb' := byOf_eq hbb
  have hzz' := zOf_eq hz
  refine Exec.of_run (R := fun v M' L'' => ∃ A' c', c' ≤ 9223372036854775807 ∧ v = .slice A' (N + l.length) c' ∧ M' = M ∧ L'' = ownS e 1 A' (N + l.length) c' (xs ++ byteV l) :: L') rfl hn (fun a w hh => ?_) (by rintro _ _ _ ⟨A', c', h, rfl, rfl, rfl⟩; exact k A' c' h)
  obtain ⟨_, j, hj, hjs, hjb, hjz⟩ := hE
  rw [hsz'] at hjs
  rw [hbb'] at hjb
  rw [hzz'] at hjz
  have hu := hT.1
  rw [hd] at hu
  have hu2 := hU.1
  rw [hud] at hu2
  have hperm := hh.own.perm hL.perm
  have hok := hperm.res _ (List.mem_cons_self ..)
  have hrow := ownS_ownsRow hok
  have hxs1 := hok.2.1
  have hssz : (⟨l.toArray⟩ : ByteArray).size = l.length := rfl
  have hl1 : ∀ u ∈ byteV l, u.oneCell' = true := by
    intro u hu
    rw [← strCells_byteV] at hu
    exact strCells_oneCell _ u hu
  have hbl : ∃ v' w', (Builtin.append_ #[t, u] ty #[.slice A N c, .string ⟨l.toArray⟩]).run P w = .ok v' w' ∧ w'.ownsRow 0 e 1 v' (N + l.length) (xs ++ byteV l) ∧ w.grownBy w' (Value.ownBlock (.slice A N c)) ∧
      (v'.ownBlock = Value.ownBlock (.slice A N c) ∨ ∀ b, v'.ownBlock = some b → w.heap.size ≤ b) := by
    rw [← strCells_byteV]
    rcases hrow.2 with ⟨h1, h2⟩ | ⟨g, cap, cur, h1, hbg, hg, hnc, hcm, hcs, htake⟩
    · cases h1
      have hx : xs = [] := List.eq_nil_of_length_eq_zero (by simpa using hrow.1)
      subst hx
      obtain ⟨v', w', hr, ho, hg, -⟩ := run_append_own_string (P := P) (w := w) w.heap.size t u ty e j hu hu2 hj hjz hjs hjb _ 0 [] (World.ownsRow_nil w w.heap.size e 1) ⟨l.toArray⟩ (by rw [hssz]; simp [maxLen]; omega) (by rw [hssz]; exact hb) (Nat.le_refl _)
      rw [hssz] at ho
      refine ⟨v', w', hr, ?_, hg, .inr fun b hb => (ho.lt b hb).1⟩
      rcases ho.2 with h | ⟨g, cap, cur, h1, _, h⟩
      · exact ⟨ho.1, .inl h⟩
      · exact ⟨ho.1, .inr ⟨g, cap, cur, h1, Nat.zero_le _, h⟩⟩
    · obtain ⟨v', w', hr, ho, hgr, -⟩ := run_append_own_string (P := P) (w := w) 0 t u ty e j hu hu2 hj hjz hjs hjb (.slice A N c) N xs hrow ⟨l.toArray⟩ (by rw [hssz]; simp [maxLen]; omega) (by rw [hssz]; exact hb) (Nat.zero_le _)
      rw [hssz] at ho
      refine ⟨v', w', hr, ho, hgr, ?_⟩
      have hxl : xs.length = N := by simpa using hrow.1
      cases h1
      by_cases hroom : N + l.length ≤ c
      · have hr2 := run_append_room_string (P := P) w t u ty e j hu hu2 hj hjs g N c cur hg ⟨l.toArray⟩ hroom (by rw [hssz]; omega)
        rw [hr] at hr2
        injection hr2 with h1 h2
        subst h1
        exact .inl rfl
      · have hr2 := run_append_grow_string (P := P) w t u ty e j (.int .u8 0) hu hu2 hj hjz ⟨g, 0, none⟩ N c xs (by rw [hjs]; simpa using hxl) (hrow.cells (g := g) rfl) ⟨l.toArray⟩ (by rw [hssz]; omega) (by rw [hssz]; omega) (by rw [hssz, hjb]; exact growslice_fits (by omega) (by omega))
        rw [hr] at hr2
        injection hr2 with h1 h2
        subst h1
        refine .inr fun b hb => ?_
        have hb2 : w.heap.size = b := by simpa [Value.ownBlock] using hb
        omega
  obtain ⟨v', w', hr, ho, hg, hbl⟩ := hbl
  obtain ⟨A', c', rfl, hok'⟩ := ownsRow_ownS ho (fun u hu => by
    rcases List.mem_append.1 hu with hu | hu
    · exact hxs1 u hu
    · exact hl1 u hu)
  refine ⟨_, w', M, _, ?_, ?_, A', c', ?_, rfl, rfl, rfl⟩
  · simp only [execOp, resolve, invoke, builtin, Sem.run_bind, Sem.run_pure, Result.andThen_ok, List.map_toArray, List.map_cons, List.map_nil, hh.fits.ev hx, hh.fits.ev hy, hr]
  · refine hperm.upd (.here) ⟨hg.os, hg.tape, hg.output⟩ hg.size (fun b hb hlt => hg.block b hlt ?_) hok' (fun b hb => ?_) ?_
    · intro hbe
      apply hb
      cases A with
      | none => simp [Value.ownBlock] at hbe
      | some a => simp [Value.ownBlock] at hbe; simp [ownS, hbe]
    · have hlt : b < w'.heap.size := by
        cases A' with
        | none => simp [ownS] at hb
        | some a =>
          simp [ownS] at hb
          subst hb
          exact (ho.lt a.block rfl).2
      refine ⟨hlt, ?_⟩
      cases A' with
      | none => simp [ownS] at hb
      | some a' =>
        simp [ownS] at hb
        subst hb
        rcases hbl with hbl | hbl
        · left
          cases A with
          | none => simp [Value.ownBlock] at hbl
          | some a => simp [Value.ownBlock] at hbl; simp [ownS, hbl]
        · right
          exact hbl a'.block rfl
    · cases A' <;> simp [ownS]
  · rcases hok'.2.2 with ⟨_, _, rfl⟩ | ⟨_, _, _, _, _, h, _⟩
    · omega
    · exact h
end
end Bf

