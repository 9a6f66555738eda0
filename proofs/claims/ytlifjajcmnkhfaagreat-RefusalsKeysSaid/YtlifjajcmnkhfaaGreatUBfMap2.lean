/-
 Maps asked with a second answer; interface values asked for their type and against nil; a deferred closure that recovers in a region of its own.
 Conditions: none; plain laws over any program.
-/
import Derived.Test.YtlifjajcmnkhfaaGreatUBfMap
import Derived.Test.YtlifjajcmnkhfaaGreatUBfRec
namespace Bf
open Go
section
variable {r : Option Nat} {P : Program} {E : World} {Q : Exit → Act → World → Prop} {n : Nat} {fr : Fr} {D : List Deferred} {M : Mem} {L : List Res} {K : S → Prop}
variable {d : Nat} {ty : TypeId} {pos : String} {aft : Array Edge} {g : Option (Nat × Bool)}
theorem Stab.lookup2 {t kt et : TypeId} {i ki ei : TyI} {x y : Operand} {b cl : Nat} {k : Int} {es : List MapEntry} {z : Value} (hx : ev fr x = some (.map (some b))) (hy : ev fr y = some (.int .i64 k)) (hT : HasTy P t i) (hd : i.desc = .map kt et) (hK : HasTy P kt ki) (hkd : ki.desc = .int .i64) (hE : HasTy P et ei) (hz : ei.zero = z)
  (hL : Has L (mapR b es cl)) (hkeys : IntKeys es) : Stab P fr M L ⟨some d, .lookup t x y true, ty, pos, aft, g⟩ (.tuple #[(valE k es).getD z, .bool (valE k es).isSome]) := by
 intro n D a w hf hk
 have hb : w.heap[b]? = some (.map es.toArray cl) := hk.res _ hL.mem
 have hu := hT.1
 rw [hd] at hu
 have hku := hK.1
 rw [hkd] at hku
 simp only [execOp, Instr.lookup, hf.ev hx, hf.ev hy, Sem.run_bind, run_underlying hu, run_getMap hb, run_checkInt hku, run_findInt hku hkeys, Result.andThen_ok, Sem.run_pure]
 unfold valE
 cases lookE k es 0 with
 | none => simp [run_zeroValue hE, hz]
 | some p => simp [Sem.run_pure]
theorem Stab.lookup2s {t kt et : TypeId} {i ki ei : TyI} {x y : Operand} {b cl : Nat} {k : Int} {es : List MapEntry} {v : Value} (hx : ev fr x = some (.map (some b))) (hy : ev fr y = some (.int .i64 k)) (hT : HasTy P t i) (hd : i.desc = .map kt et) (hK : HasTy P kt ki) (hkd : ki.desc = .int .i64) (hE : HasTy P et ei)
  (hL : Has L (mapR b es cl)) (hkeys : IntKeys es) (hv : valE k es = some v) : Stab P fr M L ⟨some d, .lookup t x y true, ty, pos, aft, g⟩ (.tuple #[v, .bool true]) := by
 have := Stab.lookup2 (M := M) (d := d) (ty := ty) (pos := pos) (aft := aft) (g := g) hx hy hT hd hK hkd hE rfl hL hkeys
 rwa [hv] at this
theorem Stab.lookup2n {t kt et : TypeId} {i ki ei : TyI} {x y : Operand} {b cl : Nat} {k : Int} {es : List MapEntry} {z : Value} (hx : ev fr x = some (.map (some b))) (hy : ev fr y = some (.int .i64 k)) (hT : HasTy P t i) (hd : i.desc = .map kt et) (hK : HasTy P kt ki) (hkd : ki.desc = .int .i64) (hE : HasTy P et ei) (hz : ei.zero = z)
  (hL : Has L (mapR b es cl)) (hkeys : IntKeys es) (hv : valE k es = none) : Stab P fr M L ⟨some d, .lookup t x y true, ty, pos, aft, g⟩ (.tuple #[z, .bool false]) := by
 have := Stab.lookup2 (M := M) (d := d) (ty := ty) (pos := pos) (aft := aft) (g := g) hx hy hT hd hK hkd hE hz hL hkeys
 rwa [hv] at this
theorem Knd.typeAssert {x : Operand} {s t : TypeId} {b : Bool} (h : Exec r P E Q ⟨n, fr, D, M, L⟩ ⟨some d, .typeAssert x s t b, ty, pos, aft, g⟩ K) : Exec r P E Q ⟨n, fr, D, M, L⟩ ⟨some d, .typeAssert x s t b, ty, pos, aft, g⟩ K := h
theorem Stab.assertY {x : Operand} {s t : TypeId} {i : TyI} {v : Value} (hx : ev fr x = some (.iface t v)) (hT : HasTy P t i) (hd : (match i.desc with | .interface _ => false | _ => true) = true) :
  Stab P fr M L ⟨some d, .typeAssert x s t true, ty, pos, aft, g⟩ (.tuple #[v, .bool true]) := by
 intro n' D ac w hf _
 have hu := hT.1
 simp only [execOp, Instr.typeAssert, hf.ev hx, Sem.run_bind, run_underlying hu, Result.andThen_ok]
 cases hi : i.desc <;> rw [hi] at hd <;> simp_all [Sem.run_pure]
theorem Stab.ifaceeq {t : TypeId} {u : TypeId} {x : Operand} {ms : Array (String × TypeId)} {i : TyI} {v : Value} {t' : TypeId} (hx : ev fr x = some (.iface t' v)) (hT : HasTy P t i) (hd : i.desc = .interface ms) :
  Stab P fr M L ⟨some d, .binOp .eql t x (.const .nilIface) u, ty, pos, aft, g⟩ (.bool false) := by
 intro n' D ac w hf _
 have hu := hT.1
 rw [hd] at hu
 have hc : ac.eval (.const .nilIface) = .nilIface := rfl
 simp only [execOp, hf.ev hx, hc]
 simp [go_sem, hu]
theorem Stab.nileq {t : TypeId} {u : TypeId} {x : Operand} {ms : Array (String × TypeId)} {i : TyI} (hx : ev fr x = some .nilIface) (hT : HasTy P t i) (hd : i.desc = .interface ms) :
  Stab P fr M L ⟨some d, .binOp .eql t x (.const .nilIface) u, ty, pos, aft, g⟩ (.bool true) := by
 intro n' D ac w hf _
 have hu := hT.1
 rw [hd] at hu
 have hc : ac.eval (.const .nilIface) = .nilIface := rfl
 simp only [execOp, hf.ev hx, hc]
 simp [go_sem, hu]
theorem wpS_rec1 {id d1 : Nat} {t1 : TypeId} {p1 : String} {e1 : Array Edge} {ts : Array TypeId} {Q : Exit → Act → List Frame → World → Prop} {a : Act} {cs cs' : List Frame} {w : World} {v : Value} (h : recoverD cs = some (v, cs'))
  (k : Q .normal (a.put (some d1) v) cs' w) :
  (Code.region id #[⟨some d1, .call { callee := .builtin .recover, args := #[], argTypes := ts }, t1, p1, e1, none⟩] false).wpS P Q a cs w := by
 refine wpS_region ?_
 show wpOpsS P _ Q [0] a cs w
 simp [wpOpsS, Region.wanted, execOp, resolve, invoke, builtin, h]
 exact k
theorem wpS_norec1 {id d1 : Nat} {t1 : TypeId} {p1 : String} {e1 : Array Edge} {ts : Array TypeId} {Q : Exit → Act → List Frame → World → Prop} {a : Act} {cs : List Frame} {w : World} (h : recoverD cs = none)
  (k : Q .normal (a.put (some d1) .nilIface) cs w) :
  (Code.region id #[⟨some d1, .call { callee := .builtin .recover, args := #[], argTypes := ts }, t1, p1, e1, none⟩] false).wpS P Q a cs w := by
 refine wpS_region ?_
 show wpOpsS P _ Q [0] a cs w
 simp [wpOpsS, Region.wanted, execOp, resolve, invoke, builtin, h]
 exact k
theorem CD.intro1 {f : FuncId} {fn : Func} {c : Code} {vs : List Value} {A : List Res} {R : FrameMode → Mem → List Res → Prop} {id d1 : Nat} {t1 : TypeId} {p1 : String} {e1 : Array Edge} {ts : Array TypeId}
  (hf : P.funcs[f]? = some fn) (hb : fn.body = some (.seq (.region id #[⟨some d1, .call { callee := .builtin .recover, args := #[], argTypes := ts }, t1, p1, e1, none⟩] false) c))
  (hname : (fn.name == "runtime.NumGoroutine") = false) (hn : fn.ntmps = n) (hl : Nat.ble vs.length n = true) (h1 : Nat.blt d1 n = true) {u u' : FrameMode} {v : Value}
  (hu : (∃ older, u = .panicking ({ v := v, recovered := false } :: older) ∧ u' = .panicking ({ v := v, recovered := true } :: older)) ∨ (u = .returning ∧ u' = .returning ∧ v = .nilIface))
  (h : ∀ E F, Tr E ⟨n, (d1, v) :: argFr vs 0, [], M, A ++ F⟩ (c.wpIn (rf none) 0 P (PostC P fn E F M R u'))) : CD P f vs u M A R := by
 refine ⟨⟨fn, hf, hname, by rw [hb]; rfl⟩, fun E F w hw => ?_⟩
 refine callsD_of_wpS hf hb fun c₀ cs hc => ?_
 have hfit0 : Fits n (argFr vs 0) [] { tmps := vs.toArray ++ Array.replicate (fn.ntmps - vs.toArray.size) undef, defers := [] } := by
  refine ⟨?_, fun k v hk => ?_, rfl⟩
  ·have := Nat.ble_eq.mp hl
   simp [hn]; omega
  ·obtain ⟨_, h2⟩ := look_argFr vs 0 k v hk
   have hlt := (List.getElem?_eq_some_iff.1 h2).1
   simp only [Nat.sub_zero] at h2 hlt
   rw [Array.getD_eq_getD_getElem?, Array.getElem?_append_left (by simpa using hlt)]
   simp [h2]
 generalize ({ tmps := vs.toArray ++ Array.replicate (fn.ntmps - vs.toArray.size) undef, defers := [] } : Act) = a0 at hfit0 ⊢
 have hfit1 := hfit0.put h1 v
 have key : ∀ cs' : List Frame, cs' = { c₀ with mode := u' } :: cs → c.wpS P (bodyPostS P fn c₀ cs fun e u' w' => ∃ v M' A', e = .returned v ∧ Mem.le M M' ∧ Own E M' (A' ++ F) w' ∧ R u' M' A') (a0.put (some d1) v) cs' w := by
  rintro cs' rfl
  refine wpS_of_wp ((wpIn_wide (n := 0)).1 (Code.wpIn_mono ?_ (h E F _ w ⟨hfit1, hw⟩)))
  rintro e a w ⟨he, hd, r, hr, M', A', hm, ho, hR⟩
  rcases he with rfl | rfl
  ·exact ⟨hd, u', rfl, r, hr, r, M', A', rfl, hm, ho, hR⟩
  ·exact ⟨hd, u', rfl, r, hr, r, M', A', rfl, hm, ho, hR⟩
 refine wpS_seq ?_
 rcases hu with ⟨older, rfl, rfl⟩ | ⟨rfl, rfl, rfl⟩
 ·refine wpS_rec1 (v := v) (cs' := { c₀ with mode := .panicking ({ v := v, recovered := true } :: older) } :: cs) (by simp [recoverD, hc]) ?_
  exact key _ rfl
 ·refine wpS_norec1 (by simp [recoverD, hc]) ?_
  refine key _ ?_
  cases c₀
  simp_all
end
end Bf

