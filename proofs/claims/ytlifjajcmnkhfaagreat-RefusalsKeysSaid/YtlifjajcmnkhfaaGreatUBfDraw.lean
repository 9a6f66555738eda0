/-
 Regions whose order is open: one order is walked; quiet operations are taken first.
 Conditions: none; plain laws over any program.
-/
import Derived.Test.YtlifjajcmnkhfaaGreatUBfTac
namespace Bf
open Go

section
variable {r : Option Nat} {P : Program} {ops : Array Oper} {Q : Exit → Act → World → Prop}

def YieldsI (P : Program) (ops : Array Oper) (I : World → Prop) (o : Oper) (v : Value) (a : Act) : Prop :=
 (Region.wanted o (yielded ops a.tmps) = true ∧ ∀ w, I w → (execOp a.eval o).run P w = .ok (.value v) w) ∨ (Region.wanted o (yielded ops a.tmps) = false ∧ v = undef)
theorem YieldsI.mono {I I' : World → Prop} {o : Oper} {v : Value} {a : Act} (h : YieldsI P ops I o v a) (k : ∀ w, I' w → I w) : YieldsI P ops I' o v a := by
 rcases h with ⟨h1, h2⟩ | h
 ·exact .inl ⟨h1, fun w hw => h2 w (k w hw)⟩
 ·exact .inr h
theorem YieldsI.same {I : World → Prop} {o : Oper} {v : Value} {a a' : Act} (h : YieldsI P ops I o v a) (he : execOp a'.eval o = execOp a.eval o)
  (hw : Region.wanted o (yielded ops a'.tmps) = Region.wanted o (yielded ops a.tmps)) : YieldsI P ops I o v a' := by
 unfold YieldsI at *
 rw [he, hw]
 exact h
theorem YieldsI.run {I : World → Prop} {i : Nat} {o : Oper} {v : Value} {a : Act} (hi : ops[i]? = some o) (h : YieldsI P ops I o v a) {K : Act → World → Prop} {w : World} (hw : I w) (k : K (a.put o.dst v) w) :
  wpOpIn (rf r) 0 P ops Q i K a w := by
 unfold wpOpIn
 simp only [hi]
 rcases h with ⟨h1, h2⟩ | ⟨h1, rfl⟩
 ·rw [if_pos h1]
  exact wpIn_of_run (h2 w hw) (fun _ h => by cases h) k
 ·rw [if_neg (by simp [h1])]
  exact ⟨fun _ _ => trivial, k⟩
theorem semAt_put (o : Oper) (hs : ∀ cs b, o.op ≠ .select cs b) (a : Act) (dst : Option Tmp) (v : Value) (h : ∀ d, dst = some d → d ∉ o.looksAt ops) : Oper.semAt r (a.put dst v).eval o = Oper.semAt r a.eval o := by
 have he := execOp_put o hs a dst v h
 cases r with
 | none => exact he
 | some l =>
  unfold Oper.semAt
  cases ho : o.op with
  | defer c =>
   have : resolve (a.put dst v).eval c o.type = resolve a.eval c o.type := resolve_congr c _ fun x hx => Act.eval_put fun d hd hxd => h d hd (by
    subst hxd
    exact List.mem_append_left _ (List.mem_filterMap.2 ⟨.tmp d, by rw [ho]; exact Array.mem_toList_iff.2 hx, rfl⟩))
   simp only [this]
  | _ => simp only [he]

theorem wpOp_swap {I : World → Prop} {j : Nat} {oi oj : Oper} {v : Value} (hj : ops[j]? = some oj) (hap : oi.apart ops oj = true) (hsi : ∀ cs b, oi.op ≠ .select cs b) (hsj : ∀ cs b, oj.op ≠ .select cs b)
  (hQ : ∀ c a w, Q (.panic c) (a.put oi.dst v) w → Q (.panic c) a w) {K : Act → World → Prop} {a : Act} {w : World} (hy : YieldsI P ops I oi v a) (h : wpOpIn (rf r) 0 P ops Q j K (a.put oi.dst v) w) :
  wpOpIn (rf r) 0 P ops Q j (fun a' w' => YieldsI P ops I oi v a' ∧ K (a'.put oi.dst v) w') a w := by
 obtain ⟨h1, h2, h3⟩ := Oper.apart_spec hap
 have keep : ∀ a : Act, YieldsI P ops I oi v a → ∀ u, YieldsI P ops I oi v (a.put oj.dst u) := fun a hy u => hy.same (execOp_put oi hsi a oj.dst u h3) (wanted_put oi a oj.dst u h3)
 have both : ∀ u w', K ((a.put oi.dst v).put oj.dst u) w' → YieldsI P ops I oi v (a.put oj.dst u) ∧ K ((a.put oj.dst u).put oi.dst v) w' := fun u w' hk => ⟨keep a hy u, by rw [← Act.put_comm a v u h2]; exact hk⟩
 have hwant := wanted_put oj a oi.dst v h1
 have hexec := semAt_put (r := r) oj hsj a oi.dst v h1
 unfold wpOpIn at h ⊢
 simp only [hj, hwant] at h ⊢
 by_cases hw : Region.wanted oj (yielded ops a.tmps) = true
 ·rw [if_pos hw] at h ⊢
  refine ⟨fun _ _ => trivial, ?_⟩
  have h := h.2
  revert h
  show oj.uponIn (rf r) 0 P (a.put oi.dst v) K Q ((oj.semAt r (a.put oi.dst v).eval).run P w) → oj.uponIn (rf r) 0 P a _ Q ((oj.semAt r a.eval).run P w)
  rw [hexec]
  cases (oj.semAt r a.eval).run P w with
  | ok nx w' =>
   cases nx with
   | value u => exact fun h => both u w' h
   | skip => exact fun h => both _ w' h
   | defer d =>
    intro h
    have e : ({ a.put oi.dst v with defers := d :: (a.put oi.dst v).defers } : Act).put oj.dst undef = (({ a with defers := d :: a.defers } : Act).put oj.dst undef).put oi.dst v := by
     rw [Act.put_defers, Act.put_comm _ v undef h2]
    have hy' : YieldsI P ops I oi v { a with defers := d :: a.defers } := hy.same rfl rfl
    refine ⟨keep _ hy' _, ?_⟩
    rw [← e]
    exact h
   | enter f args =>
    intro h
    refine ⟨h.1, CallsIn.mono h.2 fun e w'' he => ?_⟩
    cases e with
    | returned u => exact both u w'' he
    | panicked c => exact hQ _ _ _ he
    | outgrown => exact he
   | row row args => exact fun h => ⟨h.1, RowsIn.mono h.2 fun u w'' he => both u w'' he⟩
   | round l f tmps assign body =>
    intro h
    refine ⟨h.1, RoundIn.mono h.2 fun e w'' he => ?_⟩
    cases e with
    | returned u => exact both u w'' he
    | panicked c => exact hQ _ _ _ he
    | outgrown => exact he
   | _ => exact fun h => h
  | halt x w' =>
   cases x with
   | panic u => exact fun h => hQ _ _ _ h
   | _ => exact fun h => h
 ·rw [if_neg hw] at h ⊢
  exact ⟨fun _ _ => trivial, both _ w h.2⟩

def reach (ops : Array Oper) : Nat → Nat → Nat → Bool
 | 0, _, _ => false
 | n + 1, i, k => match ops[i]? with
  | some o => o.after.toList.any fun e => Region.binds .any e && (e.on == k || reach ops n e.on k)
  | none => false
def Closed (ops : Array Oper) (listed : Array Bool) : Prop := ∀ k o, listed.getD k false = true → ops[k]? = some o → ∀ e ∈ o.after, Region.binds .any e = true → listed.getD e.on false = true
theorem reach_listed {listed : Array Bool} (hc : Closed ops listed) : ∀ n i k, listed.getD i false = true → reach ops n i k = true → listed.getD k false = true
 | 0, _, _, _, h => by cases h
 | n + 1, i, k, hi, h => by
  unfold reach at h
  split at h
  ·rename_i o ho
   obtain ⟨e, he, hb⟩ := List.any_eq_true.1 h
   have he := Array.mem_toList_iff.1 he
   simp only [Bool.and_eq_true, Bool.or_eq_true, beq_iff_eq] at hb
   have := hc i o hi ho e he hb.1
   rcases hb.2 with rfl | hr
   ·exact this
   ·exact reach_listed hc n e.on k this hr
  ·cases h
def depAll (ops : Array Oper) (listed : Array Bool) (i : Nat) : Bool := (List.range ops.size).all fun k => !listed.getD k false || reach ops ops.size i k

def AnyI (r : Option Nat) (P : Program) (ops : Array Oper) (Q : Exit → Act → World → Prop) : Nat → (World → Prop) → Array Bool → Act → World → Prop
 | 0, _, listed, a, w => Region.ready .any ops listed = [] ∧ Q .normal a w
 | fuel + 1, I, listed, a, w => (Region.ready .any ops listed = [] → Q .normal a w) ∧
  ∀ i ∈ Region.ready .any ops listed, wpOpIn (rf r) 0 P ops Q i (fun a' w' => ∃ I' : World → Prop, I' w' ∧ (depAll ops listed i = false → ∀ w, I' w → I w) ∧ AnyI r P ops Q fuel I' (listed.setIfInBounds i true) a' w') a w
theorem AnyI.any : ∀ {fuel : Nat} {I : World → Prop} {listed : Array Bool} {a : Act} {w : World}, AnyI r P ops Q fuel I listed a w → wpAnyIn (rf r) 0 P .any ops Q fuel listed a w
 | 0, _, _, _, _, h => h
 | _ + 1, _, _, _, _, h => ⟨h.1, fun i hi => wpOpIn_mono (fun _ _ ⟨_, _, _, h3⟩ => AnyI.any h3) (h.2 i hi)⟩

theorem Closed.set {listed : Array Bool} {i : Nat} (hc : Closed ops listed) (hr : i ∈ Region.ready .any ops listed) : Closed ops (listed.setIfInBounds i true) := by
 intro k o hk ho e he hb
 by_cases hik : i = k
 ·subst hik
  obtain ⟨_, o', ho', hall⟩ := mem_ready.1 hr
  rw [ho] at ho'
  cases ho'
  exact getD_set_true (hall e he hb)
 ·rw [getD_set_ne false hik] at hk
  exact getD_set_true (hc k o hk ho e he hb)
theorem not_listed {listed : Array Bool} {i : Nat} (h : listed.getD i true = false) : listed.getD i false = false := by
 rcases Nat.lt_or_ge i listed.size with h' | h'
 ·simp [Array.getD_eq_getD_getElem?, h'] at h ⊢; exact h
 ·simp [Array.getElem?_eq_none h'] at h
theorem listed_self {listed : Array Bool} {i : Nat} (h : listed.getD i true = false) : (listed.setIfInBounds i true).getD i false = true := by
 have hlt : i < listed.size := by
  rcases Nat.lt_or_ge i listed.size with h' | h'
  ·exact h'
  ·simp [Array.getElem?_eq_none h'] at h
 simp [hlt]

theorem AnyI.first {i : Nat} {oi : Oper} {v : Value} (hi : ops[i]? = some oi) (hsel : ∀ (j : Nat) (o : Oper) cs b, ops[j]? = some o → o.op ≠ .select cs b)
  (hQ : ∀ c a w, Q (.panic c) (a.put oi.dst v) w → Q (.panic c) a w) :
  ∀ (fuel : Nat) (I : World → Prop) (listed : Array Bool) (a : Act) (w : World),
   (∀ j oj, ops[j]? = some oj → j ≠ i → listed.getD j true = false → (∀ e ∈ oj.after, Region.binds .any e = true → e.on ≠ i) → oi.apart ops oj = true) →
   Closed ops listed → i ∈ Region.ready .any ops listed → YieldsI P ops I oi v a → I w →
   AnyI r P ops Q fuel I (listed.setIfInBounds i true) (a.put oi.dst v) w → AnyI r P ops Q (fuel + 1) I listed a w := by
 intro fuel
 induction fuel with
 | zero =>
  intro I listed a w _ _ hr hy hw H
  refine ⟨fun h => (by rw [h] at hr; cases hr), fun j hj => ?_⟩
  by_cases hji : j = i
  ·subst hji; exact hy.run hi hw ⟨I, hw, fun _ _ h => h, H⟩
  ·have := ready_mono hj hji
   rw [H.1] at this
   cases this
 | succ fuel ih =>
  intro I listed a w hfree hc hr hy hw H
  refine ⟨fun h => (by rw [h] at hr; cases hr), fun j hj => ?_⟩
  by_cases hji : j = i
  ·subst hji; exact hy.run hi hw ⟨I, hw, fun _ _ h => h, H⟩
  ·have h1 := H.2 j (ready_mono hj hji)
   obtain ⟨hjun, oj, hoj, hall⟩ := mem_ready.1 hj
   have hi0 := (mem_ready.1 hr).1
   have hnot : ∀ e ∈ oj.after, Region.binds .any e = true → e.on ≠ i := fun e he hb heq => by
    have h1 := hall e he hb
    rw [heq, not_listed hi0] at h1
    cases h1
   have hlt : i < ops.size := (Array.getElem?_eq_some_iff.1 hi).1
   have hdep : depAll ops (listed.setIfInBounds i true) j = false := by
    rw [← Bool.not_eq_true]
    intro hd
    unfold depAll at hd
    rw [List.all_eq_true] at hd
    have := hd i (List.mem_range.2 hlt)
    rw [listed_self hi0] at this
    simp only [Bool.not_true, Bool.false_or] at this
    -- 'i' before 'j', and yet 'j' is ready without it
    have hj' : (listed.setIfInBounds j true).getD j false = true := listed_self hjun
    have hc' := hc.set hj
    have := reach_listed hc' _ j i hj' this
    rw [getD_set_ne false hji, not_listed hi0] at this
    cases this
   have h2 := wpOp_swap hoj (hfree j oj hoj hji hjun hnot) (fun cs b => hsel i oi cs b hi) (fun cs b => hsel j oj cs b hoj) hQ hy h1
   have hfree' : ∀ k ok, ops[k]? = some ok → k ≠ i → (listed.setIfInBounds j true).getD k true = false →
     (∀ e ∈ ok.after, Region.binds .any e = true → e.on ≠ i) → oi.apart ops ok = true := fun k ok hk hki hun hno => by
    refine hfree k ok hk hki ?_ hno
    by_cases hjk : j = k
    ·subst hjk; exact hjun
    ·rw [getD_set_ne true hjk] at hun; exact hun
   refine wpOpIn_mono (fun a' w' ⟨h3, I', h4, h5, h6⟩ => ⟨I', h4, fun _ => h5 hdep, ih I' (listed.setIfInBounds j true) a' w' hfree' (hc.set hj) (ready_mono hr (Ne.symm hji)) (h3.mono (h5 hdep)) h4 ?_⟩) h2
   rw [Array.setIfInBounds_comm _ _ hji]
   exact h6
end

def allOk (ops : Array Oper) (listed : Array Bool) : Bool :=
 (List.range ops.size).all fun k => !listed.getD k false || match ops[k]? with
  | some o => o.after.toList.all fun e => !Region.binds .any e || listed.getD e.on false
  | none => true
theorem allOk_closed {ops : Array Oper} {listed : Array Bool} (h : allOk ops listed = true) : Closed ops listed := by
 intro k o hk ho e he hb
 unfold allOk at h
 rw [List.all_eq_true] at h
 have := h k (List.mem_range.2 (Array.getElem?_eq_some_iff.1 ho).1)
 simp only [hk, Bool.not_true, Bool.false_or, ho] at this
 have := List.all_eq_true.1 this e (Array.mem_toList_iff.2 he)
 simpa [hb] using this

def marks (n : Nat) : List Nat → Array Bool
 | [] => Array.replicate n false
 | i :: l => (marks n l).setIfInBounds i true
def chk (ops : Array Oper) (l : List Nat) (i : Nat) : Bool :=
 (Region.ready .any ops (marks ops.size l)).contains i && Region.free .any ops (marks ops.size l) i && allOk ops (marks ops.size l)
def only (ops : Array Oper) (l : List Nat) (i : Nat) : Bool := Region.ready .any ops (marks ops.size l) == [i]
def depc (ops : Array Oper) (l : List Nat) (i : Nat) : Bool := depAll ops (marks ops.size l) i

def TrA (r : Option Nat) (P : Program) (E : World) (ops : Array Oper) (Q : Exit → Act → World → Prop) (B : List Res) (fuel : Nat) (l : List Nat) (s : S) : Prop :=
 ∀ a w, s.holds E a w → AnyI r P ops Q fuel (KH s.M B) (marks ops.size l) a w

section
variable {r : Option Nat} {P : Program} {E : World} {Q : Exit → Act → World → Prop} {n : Nat} {fr : Fr} {D : List Deferred} {M : Mem} {L B : List Res} {fuel : Nat} {l : List Nat} {ops : Array Oper}

theorem Tr.draw (B : List Res) {id : Nat} (hm : P.follows .mixedOrders = true) (h : TrA r P E ops Q B ops.size [] ⟨n, fr, D, M, L⟩) : Tr E ⟨n, fr, D, M, L⟩ ((Code.region id ops true).wpIn (rf r) 0 P Q) := fun a _ hs =>
 wpIn_region_any hm (AnyI.any (h a _ ⟨hs.fits, hs.own.same ⟨rfl, rfl, rfl⟩ rfl⟩))

theorem TrA.done {s : S} (hr : Region.ready .any ops (marks ops.size l) = []) (h : Tr E s (Q .normal)) : TrA r P E ops Q B fuel l s := fun a w hs => by
 cases fuel with
 | zero => exact ⟨hr, h a w hs⟩
 | succ f => exact ⟨fun _ => h a w hs, fun i hi => by rw [hr] at hi; cases hi⟩

theorem TrA.takeY {i d : Nat} {oi : Oper} {v : Value} (hsel : Region.noSelect ops = true) (hi : ops[i]? = some oi) (hc : chk ops l i = true) (hQ : ∀ c a w, Q (.panic c) (a.put oi.dst v) w → Q (.panic c) a w)
  (hB : ∀ r ∈ B, r ∈ L) (hy : ∀ a w, Fits n fr D a → KH M B w → YieldsI P ops (KH M B) oi v a) (hd : oi.dst = some d) (hn : Nat.blt d n = true)
  (h : TrA r P E ops Q B fuel (i :: l) ⟨n, (d, v) :: fr, D, M, L⟩) : TrA r P E ops Q B (fuel + 1) l ⟨n, fr, D, M, L⟩ := fun a w hs => by
 simp only [chk, Bool.and_eq_true, List.contains_iff_mem] at hc
 have hI : KH M B w := ⟨hs.own.mem, fun r hr => hs.own.res r (hB r hr)⟩
 refine AnyI.first hi (Region.noSelect_spec hsel) hQ fuel (KH M B) _ a w (Region.free_spec hi hc.1.2) (allOk_closed hc.2) hc.1.1 (hy a w hs.fits hI) hI ?_
 refine h _ w ⟨?_, hs.own⟩
 rw [hd]
 exact hs.fits.put hn v

theorem TrA.take (i : Nat) {d : Nat} {oi : Oper} {v : Value} (hsel : Region.noSelect ops = true) (hi : ops[i]? = some oi) (hc : chk ops l i = true) (hQ : ∀ c a w, Q (.panic c) (a.put oi.dst v) w → Q (.panic c) a w)
  (hB : ∀ r ∈ B, r ∈ L) (hg : oi.guard = none) (hy : Stab P fr M B oi v) (hd : oi.dst = some d) (hn : Nat.blt d n = true)
  (h : TrA r P E ops Q B fuel (i :: l) ⟨n, (d, v) :: fr, D, M, L⟩) : TrA r P E ops Q B (fuel + 1) l ⟨n, fr, D, M, L⟩ :=
 TrA.takeY hsel hi hc hQ hB (fun a _ hf _ => .inl ⟨by simp [Region.wanted, hg], fun w hw => hy n D a w hf hw⟩) hd hn h
theorem TrA.takeg (i : Nat) {d j t : Nat} {b c : Bool} {oi : Oper} {v : Value} (hsel : Region.noSelect ops = true) (hi : ops[i]? = some oi) (hc : chk ops l i = true) (hQ : ∀ c a w, Q (.panic c) (a.put oi.dst v) w → Q (.panic c) a w)
  (hB : ∀ r ∈ B, r ∈ L) (hg : oi.guard = some (j, b)) (hj : (ops[j]?).bind (·.dst) = some t) (hl : look fr t = some (.bool c)) (hcb : c = b) (hy : Stab P fr M B oi v) (hd : oi.dst = some d) (hn : Nat.blt d n = true)
  (h : TrA r P E ops Q B fuel (i :: l) ⟨n, (d, v) :: fr, D, M, L⟩) : TrA r P E ops Q B (fuel + 1) l ⟨n, fr, D, M, L⟩ :=
 TrA.takeY hsel hi hc hQ hB (fun a _ hf _ => .inl ⟨by simp [Region.wanted, hg, yielded_of hf hj hl, hcb], fun w hw => hy n D a w hf hw⟩) hd hn h
theorem TrA.takeu (i : Nat) {d j t : Nat} {b c : Bool} {oi : Oper} (hsel : Region.noSelect ops = true) (hi : ops[i]? = some oi) (hc : chk ops l i = true) (hQ : ∀ c a w, Q (.panic c) (a.put oi.dst undef) w → Q (.panic c) a w)
  (hB : ∀ r ∈ B, r ∈ L) (hg : oi.guard = some (j, b)) (hj : (ops[j]?).bind (·.dst) = some t) (hl : look fr t = some (.bool c)) (hcb : (c == b) = false) (hd : oi.dst = some d) (hn : Nat.blt d n = true)
  (h : TrA r P E ops Q B fuel (i :: l) ⟨n, (d, undef) :: fr, D, M, L⟩) : TrA r P E ops Q B (fuel + 1) l ⟨n, fr, D, M, L⟩ :=
 TrA.takeY hsel hi hc hQ hB (fun a _ hf _ => .inr ⟨by simp only [Region.wanted, hg, yielded_of hf hj hl]; simpa using hcb, rfl⟩) hd hn h
theorem only_ready {i : Nat} (ho : only ops l i = true) : Region.ready .any ops (marks ops.size l) = [i] := by simpa [only] using ho
theorem wanted_of {a : Act} (hf : Fits n fr D a) {oi : Oper} (hg : oi.guard = none ∨ ∃ j t b, oi.guard = some (j, b) ∧ (ops[j]?).bind (·.dst) = some t ∧ look fr t = some (.bool b)) : Region.wanted oi (yielded ops a.tmps) = true := by
 rcases hg with hg | ⟨j, t, b, hg, hj, hl⟩
 ·simp [Region.wanted, hg]
 ·simp [Region.wanted, hg, yielded_of hf hj hl]
theorem TrA.eff (i : Nat) {oi : Oper} (hi : ops[i]? = some oi) (ho : only ops l i = true) (hg : oi.guard = none ∨ ∃ j t b, oi.guard = some (j, b) ∧ (ops[j]?).bind (·.dst) = some t ∧ look fr t = some (.bool b))
  (h : Exec r P E Q ⟨n, fr, D, M, L⟩ oi fun s' => Mem.le M s'.M ∧ (∀ r ∈ B, r ∈ s'.L) ∧ TrA r P E ops Q B fuel (i :: l) s') : TrA r P E ops Q B (fuel + 1) l ⟨n, fr, D, M, L⟩ := fun a w hs => by
 have hr := only_ready ho
 refine ⟨fun h => (by rw [hr] at h; cases h), fun j hj => ?_⟩
 rw [hr] at hj
 have : j = i := by simpa using hj
 subst this
 unfold wpOpIn
 simp only [hi]
 rw [if_pos (wanted_of hs.fits hg)]
 refine Oper.wpIn_mono ?_ (h a w hs)
 rintro a' w' ⟨s', h1, h2, h3, h4⟩
 exact ⟨KH s'.M B, ⟨h1.own.mem, fun r hr => h1.own.res r (h3 r hr)⟩, fun _ w hw => ⟨fun b o hb => hw.mem b o (h2 b o hb), hw.res⟩, h4 a' w' h1⟩
theorem TrA.effD (i : Nat) {oi : Oper} (hi : ops[i]? = some oi) (ho : only ops l i = true) (hd : depc ops l i = true) (hg : oi.guard = none ∨ ∃ j t b, oi.guard = some (j, b) ∧ (ops[j]?).bind (·.dst) = some t ∧ look fr t = some (.bool b))
  (h : Exec r P E Q ⟨n, fr, D, M, L⟩ oi fun s' => ∃ B', (∀ r ∈ B', r ∈ s'.L) ∧ TrA r P E ops Q B' fuel (i :: l) s') : TrA r P E ops Q B (fuel + 1) l ⟨n, fr, D, M, L⟩ := fun a w hs => by
 have hr := only_ready ho
 refine ⟨fun h => (by rw [hr] at h; cases h), fun j hj => ?_⟩
 rw [hr] at hj
 have : j = i := by simpa using hj
 subst this
 unfold wpOpIn
 simp only [hi]
 rw [if_pos (wanted_of hs.fits hg)]
 refine Oper.wpIn_mono ?_ (h a w hs)
 rintro a' w' ⟨s', h1, B', h3, h4⟩
 exact ⟨KH s'.M B', ⟨h1.own.mem, fun r hr => h1.own.res r (h3 r hr)⟩, fun hc => absurd ((show depAll ops (marks ops.size l) j = true from hd).symm.trans hc) (by decide), h4 a' w' h1⟩
end
inductive Sub : List Res → List Res → Prop
 | refl {L : List Res} : Sub L L
 | cons {x : Res} {B L : List Res} (h : Sub B L) : Sub B (x :: L)
theorem Sub.mem {B L : List Res} (h : Sub B L) : ∀ r ∈ B, r ∈ L := by
 induction h with
 | refl => exact fun _ h => h
 | cons _ ih => exact fun r hr => List.mem_cons_of_mem _ (ih r hr)
end Bf

