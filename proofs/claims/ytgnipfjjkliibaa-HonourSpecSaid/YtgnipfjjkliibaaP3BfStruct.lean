/-
  Structs of whole numbers compared.
  Conditions: none; plain laws over any program.
-/
import Derived.Test.YtgnipfjjkliibaaP3BfArr
import Derived.Laws.StructEq
namespace Bf
open Go
/-- fields that are whole numbers, one cell each -/
def flatInts (tI : TypeId) : Nat → List Field → Bool
  | _, [] => true
  | k, f :: fs => f.name != "_" && f.offset == k && f.type == tI && flatInts tI (k + 1) fs
theorem run_eqInts {P : Program} {tI : TypeId} (hI : P.underlying tI = some (.int .i64)) (w : World) (d : Nat) (xs ys : List Int) : ∀ (fs : List Field) (k : Nat), flatInts tI k fs = true → xs.length = k + fs.length → ys.length = k + fs.length →
    (Op.eqFields (d + 1) (xs.map (Value.int .i64)).toArray (ys.map (Value.int .i64)).toArray fs).run P w = .ok (decide (xs.drop k = ys.drop k)) w
  | [], k, _, h1, h2 => by
    simp only [List.length_nil, Nat.add_zero] at h1 h2
    rw [List.drop_of_length_le (by omega), List.drop_of_length_le (by omega)]
    simp [Op.eqFields]
  | f :: fs, k, hf, h1, h2 => by
    simp only [flatInts, Bool.and_eq_true, bne_iff_ne, beq_iff_eq] at hf
    obtain ⟨⟨⟨n1, n2⟩, n3⟩, n4⟩ := hf
    rw [List.length_cons] at h1 h2
    have ih := run_eqInts hI w d xs ys fs (k + 1) n4 (by omega) (by omega)
    have hx : k < xs.length := by omega
    have hy : k < ys.length := by omega
    have px : (part f.type (xs.map (Value.int .i64)).toArray f.offset).run P w = .ok (.int .i64 xs[k]) w := by
      rw [n2, n3]
      simp [part, run_isAgg hI, TypeDesc.agg, hx]
    have py : (part f.type (ys.map (Value.int .i64)).toArray f.offset).run P w = .ok (.int .i64 ys[k]) w := by
      rw [n2, n3]
      simp [part, run_isAgg hI, TypeDesc.agg, hy]
    have he := run_equalIn_int (P := P) w d f.type .i64 .i64 xs[k] ys[k] (by rw [n3]; exact hI)
    simp only [Op.eqFields, if_pos n1, Sem.run_bind, px, py, he, Result.andThen_ok]
    rw [List.drop_eq_getElem_cons hx, List.drop_eq_getElem_cons hy]
    by_cases e : xs[k] = ys[k]
    · have e2 : (xs[k] == ys[k]) = true := by simp [e]
      rw [e2]
      simp only [Bool.not_true, Bool.false_eq_true, if_false]
      rw [ih]
      congr 1
      exact decide_eq_decide.2 ⟨fun h => by rw [e, h], fun h => (List.cons.inj h).2⟩
    · have e2 : (xs[k] == ys[k]) = false := by simp [e]
      rw [e2]
      simp only [Bool.not_false, if_true, Sem.run_pure]
      congr 1
      exact (decide_eq_false (fun h => e (List.cons.inj h).1)).symm
section
variable {P : Program} {fr : Fr} {M : Mem} {L : List Res} {d : Nat} {ty : TypeId} {pos : String} {aft : Array Edge} {g : Option (Nat × Bool)}
theorem run_stEq {t tI : TypeId} {i ei : TyI} {fs : List Field} (xs ys : List Int) (hT : HasTy P t i) (hd : i.desc = .struct fs.toArray) (hE : HasTy P tI ei) (hed : ei.desc = .int .i64) (hfl : flatInts tI 0 fs = true) (hp : P.stoodInHeld t = false) (hlx : xs.length = fs.length) (hly : ys.length = fs.length) (w : World) :
    (Op.equalIn 10000 t (.agg (xs.map (Value.int .i64)).toArray) (.agg (ys.map (Value.int .i64)).toArray)).run P w = .ok (decide (xs = ys)) w := by
  have hu := hT.1
  rw [hd] at hu
  have hI := hE.1
  rw [hed] at hI
  have hfo : P.fieldsOf t = fs.toArray := by simp [Program.fieldsOf, hu]
  have h := run_equalIn_struct (P := P) w 9999 t (xs.map (Value.int .i64)).toArray (ys.map (Value.int .i64)).toArray (by rw [hfo]; exact hu) hp
  rw [show (10000 : Nat) = 9999 + 1 from rfl, h, hfo]
  have h2 := run_eqInts hI w 9998 xs ys fs 0 hfl (by omega) (by omega)
  simpa using h2
theorem Stab.stne {t u tI : TypeId} {i ei : TyI} {fs : List Field} {x y : Operand} (xs ys : List Int) (hx : ev fr x = some (.agg (xs.map (Value.int .i64)).toArray)) (hy : ev fr y = some (.agg (ys.map (Value.int .i64)).toArray)) (hT : HasTy P t i) (hd : i.desc = .struct fs.toArray) (hE : HasTy P tI ei) (hed : ei.desc = .int .i64)
    (hfl : flatInts tI 0 fs = true) (hp : P.stoodInHeld t = false) (hg : P.eqGuardType P.depth t = false) (hlx : xs.length = fs.length) (hly : ys.length = fs.length) :
    Stab P fr M L ⟨some d, .binOp .neq t x y u, ty, pos, aft, g⟩ (.bool (decide (xs ≠ ys))) := by
  intro n' D ac w hf _
  have h := run_stEq xs ys hT hd hE hed hfl hp hlx hly w
  simp only [execOp, hf.ev hx, hf.ev hy, Sem.run_bind, run_eqGuard_agg w .neq t x y _ _ hg, Result.andThen_ok, run_neq_struct, h, Sem.run_pure]
  simp
end
end Bf

