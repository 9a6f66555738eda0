/-
  Texts of the proof, one after the other.
  Conditions: none.
-/
import Derived.Test.YtghjhdbmkilakaaGreatDoorWBfByte
import Derived.Test.YtghjhdbmkilakaaGreatDoorWTys
import Derived.Test.YtghjhdbmkilakaaGreatDoorWBfOpt
import Derived.Test.YtghjhdbmkilakaaGreatDoorWBfRange
import Derived.Test.YtghjhdbmkilakaaGreatDoorWBfStr
import Derived.Test.YtghjhdbmkilakaaGreatDoorWBfRec
import Derived.Test.YtghjhdbmkilakaaGreatDoorWBfApp
import Derived.Test.YtghjhdbmkilakaaGreatDoorWBfW32
import Derived.Test.YtghjhdbmkilakaaGreatDoorWBfArr
import Derived.Test.YtghjhdbmkilakaaGreatDoorWBfUnd
import Derived.Test.YtghjhdbmkilakaaGreatDoorWBfFn
import Derived.Test.YtghjhdbmkilakaaGreatDoorWXs
/-
  Frames, plain: what begins with a frame, what is read, what is found.
  Conditions: none.
-/
namespace Go.Proofs.YtghjhdbmkilakaaGreatDoor
open Go Bf
structure Frm where
  kind : Int
  body : List UInt8
def hdF (k n : Nat) : List UInt8 := [170, UInt8.ofNat k, UInt8.ofNat (n / 16777216), UInt8.ofNat (n / 65536), UInt8.ofNat (n / 256), UInt8.ofNat n]
theorem hdF_length (k n : Nat) : (hdF k n).length = 6 := rfl
def okF (f : Frm) : Prop := (0 ≤ f.kind ∧ f.kind ≤ 255) ∧ f.body.length ≤ 65536
instance (f : Frm) : Decidable (okF f) := by unfold okF; infer_instance
def manyF (b : List UInt8) : Nat := (((b.getD 2 0).toNat * 256 + (b.getD 3 0).toNat) * 256 + (b.getD 4 0).toNat) * 256 + (b.getD 5 0).toNat
section
variable (T : List UInt8 → List UInt8)
def preF (f : Frm) : List UInt8 := hdF f.kind.toNat f.body.length ++ f.body
/-- the bytes of a frame; T: the digest under the tag of frames -/
def encB (f : Frm) : List UInt8 := preF f ++ (T (preF f)).take 4
/-- the frame whose bytes come first, and how many these are -/
def firstF (b : List UInt8) : Option (Frm × Nat) :=
  if b.length < 10 ∨ b.getD 0 0 ≠ 170 then none
  else if 65536 < manyF b ∨ b.length < manyF b + 10 then none
  else if (T (b.take (6 + manyF b))).take 4 = (b.drop (6 + manyF b)).take 4 then some (⟨((b.getD 1 0).toNat : Int), (b.drop 6).take (manyF b)⟩, manyF b + 10)
  else none
end
theorem six {b : List UInt8} (h : 6 ≤ b.length) : ∃ x0 x1 x2 x3 x4 x5 r, b = x0 :: x1 :: x2 :: x3 :: x4 :: x5 :: r :=
  match b, h with
  | x0 :: x1 :: x2 :: x3 :: x4 :: x5 :: r, _ => ⟨x0, x1, x2, x3, x4, x5, r, rfl⟩
theorem preF_length (f : Frm) : (preF f).length = f.body.length + 6 := by simp [preF, hdF_length]; omega
section
variable {T : List UInt8 → List UInt8} (hT : ∀ b, (T b).length = 32)
include hT
theorem encB_length (f : Frm) : (encB T f).length = f.body.length + 10 := by
  rw [encB, List.length_append, preF_length, List.length_take, hT]; omega
omit hT in
theorem many_of {k n : Nat} (hn : n < 4294967296) (r : List UInt8) : manyF (hdF k n ++ r) = n := by
  have e2 : (hdF k n ++ r).getD 2 0 = UInt8.ofNat (n / 16777216) := rfl
  have e3 : (hdF k n ++ r).getD 3 0 = UInt8.ofNat (n / 65536) := rfl
  have e4 : (hdF k n ++ r).getD 4 0 = UInt8.ofNat (n / 256) := rfl
  have e5 : (hdF k n ++ r).getD 5 0 = UInt8.ofNat n := rfl
  unfold manyF
  rw [e2, e3, e4, e5]
  simp only [UInt8.toNat_ofNat']
  omega
theorem first_enc {f : Frm} (h : okF f) (r : List UInt8) : firstF T (encB T f ++ r) = some (f, (encB T f).length) := by
  obtain ⟨⟨h1, h2⟩, h3⟩ := h
  have hl := encB_length hT f
  have hp := preF_length f
  have ht := hT (preF f)
  have e0 : encB T f ++ r = hdF f.kind.toNat f.body.length ++ (f.body ++ ((T (preF f)).take 4 ++ r)) := by simp [encB, preF]
  have hm : manyF (encB T f ++ r) = f.body.length := by rw [e0]; exact many_of (by omega) _
  have g0 : (encB T f ++ r).getD 0 0 = 170 := by rw [e0]; rfl
  have g1 : (encB T f ++ r).getD 1 0 = UInt8.ofNat f.kind.toNat := by rw [e0]; rfl
  unfold firstF
  rw [hm, if_neg (by rw [List.length_append, hl, g0]; simp; omega), if_neg (by rw [List.length_append, hl]; omega)]
  have t1 : (encB T f ++ r).take (6 + f.body.length) = preF f := by
    rw [encB, List.append_assoc, List.take_append_of_le_length (by omega), List.take_of_length_le (by omega)]
  have t2 : ((encB T f ++ r).drop (6 + f.body.length)).take 4 = (T (preF f)).take 4 := by
    rw [encB, List.append_assoc, List.drop_append_of_le_length (by omega), List.drop_of_length_le (by omega), List.nil_append, List.take_append_of_le_length (by rw [List.length_take]; omega), List.take_of_length_le (by rw [List.length_take]; omega)]
  have t3 : ((encB T f ++ r).drop 6).take f.body.length = f.body := by
    rw [e0, show (hdF f.kind.toNat f.body.length ++ (f.body ++ ((T (preF f)).take 4 ++ r))).drop 6 = f.body ++ ((T (preF f)).take 4 ++ r) from rfl, List.take_append_of_le_length (by omega), List.take_of_length_le (by omega)]
  rw [t1, t2, if_pos rfl, t3, g1, hl]
  have ek : ((UInt8.ofNat f.kind.toNat).toNat : Int) = f.kind := by
    rw [UInt8.toNat_ofNat']; omega
  rw [ek]
omit hT in
theorem first_nil_of {b : List UInt8} (h : b.length < 10) : firstF T b = none := by
  unfold firstF; rw [if_pos (.inl h)]
omit hT in
theorem first_mark {b : List UInt8} (h : b.getD 0 0 ≠ 170) : firstF T b = none := by
  unfold firstF; rw [if_pos (.inr h)]
omit hT in
theorem first_some {b : List UInt8} {f : Frm} {n : Nat} (h : firstF T b = some (f, n)) : okF f ∧ n = f.body.length + 10 ∧ n ≤ b.length ∧ b.take n = encB T f := by
  unfold firstF at h
  split at h
  · cases h
  rename_i c1
  split at h
  · cases h
  rename_i c2
  split at h
  · rename_i c3
    cases h
    have hl : ((b.drop 6).take (manyF b)).length = manyF b := by rw [List.length_take, List.length_drop]; omega
    refine ⟨⟨⟨by show (0 : Int) ≤ ((b.getD 1 0).toNat : Int); omega, ?_⟩, by show ((b.drop 6).take (manyF b)).length ≤ 65536; rw [hl]; omega⟩, by show _ = ((b.drop 6).take (manyF b)).length + 10; rw [hl], by omega, ?_⟩
    · have := (b.getD 1 0).toNat_lt
      show ((b.getD 1 0).toNat : Int) ≤ 255
      omega
    · have hb6 : b.take 6 = hdF ((b.getD 1 0).toNat : Int).toNat (manyF b) := by
        obtain ⟨x0, x1, x2, x3, x4, x5, r, rfl⟩ := six (b := b) (by omega)
        have ex0 : x0 = 170 := by
          by_cases e : x0 = 170
          · exact e
          · exact absurd (.inr e) c1
        have em : manyF (x0 :: x1 :: x2 :: x3 :: x4 :: x5 :: r) = ((x2.toNat * 256 + x3.toNat) * 256 + x4.toNat) * 256 + x5.toNat := rfl
        show [x0, x1, x2, x3, x4, x5] = hdF ((x1.toNat : Int)).toNat _
        rw [em]
        have b2 := x2.toNat_lt
        have b3 := x3.toNat_lt
        have b4 := x4.toNat_lt
        have b5 := x5.toNat_lt
        have q : ∀ (x : UInt8) (m : Nat), m % 256 = x.toNat → UInt8.ofNat m = x := fun x m hm => by
          apply UInt8.toNat_inj.1
          rw [UInt8.toNat_ofNat']; exact hm
        rw [hdF, ex0, Int.toNat_natCast, q x1 x1.toNat (by have := x1.toNat_lt; omega), q x2 _ (by omega), q x3 _ (by omega), q x4 _ (by omega), q x5 _ (by omega)]
      have hpre : preF ⟨((b.getD 1 0).toNat : Int), (b.drop 6).take (manyF b)⟩ = b.take (6 + manyF b) := by
        show hdF ((b.getD 1 0).toNat : Int).toNat ((b.drop 6).take (manyF b)).length ++ (b.drop 6).take (manyF b) = _
        rw [hl, ← hb6, List.take_add]
      rw [encB, hpre, c3, show manyF b + 10 = (6 + manyF b) + 4 by omega, List.take_add (i := 6 + manyF b)]
  · cases h
theorem first_cut {f : Frm} (h : okF f) (r : List UInt8) {k : Nat} (hk : k < (encB T f).length) : firstF T ((encB T f ++ r).take k) = none := by
  have hl := encB_length hT f
  cases e : firstF T ((encB T f ++ r).take k) with
  | none => rfl
  | some x =>
    obtain ⟨g, n⟩ := x
    exfalso
    obtain ⟨g1, g2, g3, g4⟩ := first_some e
    have hlt : ((encB T f ++ r).take k).length = k := by rw [List.length_take, List.length_append]; omega
    rw [hlt] at g3
    rw [List.take_take, Nat.min_eq_left g3] at g4
    have h1 := first_enc hT h r
    have h2 := first_enc hT g1 ((encB T f ++ r).drop n)
    rw [← g4, List.take_append_drop, h1] at h2
    have h3 := congrArg (fun x => (x.getD (f, 0)).2) h2
    simp only [Option.getD_some] at h3
    rw [g4, encB_length hT g] at h3
    omega
end
end Go.Proofs.YtghjhdbmkilakaaGreatDoor

/-
  Frames, plain: what is read of bytes, what is found in them.
  Conditions: none.
-/
namespace Go.Proofs.YtghjhdbmkilakaaGreatDoor
open Go Bf
section
variable (T : List UInt8 → List UInt8)
/-- the frames that b begins with, and how many bytes they have -/
def readN : Nat → List UInt8 → List Frm × Nat
  | 0, _ => ([], 0)
  | k + 1, b => match firstF T b with
    | none => ([], 0)
    | some (f, n) => (f :: (readN k (b.drop n)).1, n + (readN k (b.drop n)).2)
def readF (b : List UInt8) : List Frm × Nat := readN T b.length b
def scanN : Nat → List UInt8 → List Frm × Nat
  | 0, _ => ([], 0)
  | k + 1, b => if b = [] then ([], 0)
    else if (readF T b).2 = 0 then ((scanN k (b.drop 1)).1, (scanN k (b.drop 1)).2 + 1)
    else ((readF T b).1 ++ (scanN k (b.drop (readF T b).2)).1, (scanN k (b.drop (readF T b).2)).2)
def scanF (b : List UInt8) : List Frm × Nat := scanN T b.length b
def flatF (l : List Frm) : List UInt8 := l.flatMap (encB T)
end
section
variable {T : List UInt8 → List UInt8} (hT : ∀ b, (T b).length = 32)
include hT
omit hT in
theorem readN_more : ∀ (k : Nat) (b : List UInt8), b.length ≤ k → readN T k b = readN T b.length b := by
  intro k
  induction k using Nat.strongRecOn with
  | ind k ih =>
    intro b hk
    cases e : firstF T b with
    | none =>
      have q : ∀ j, readN T j b = ([], 0) := fun j => by
        cases j with
        | zero => rfl
        | succ j => rw [readN, e]
      rw [q, q]
    | some x =>
      obtain ⟨f, n⟩ := x
      obtain ⟨-, h2, h3, -⟩ := first_some e
      obtain ⟨j, rfl⟩ : ∃ j, k = j + 1 := ⟨k - 1, by omega⟩
      obtain ⟨i, hi⟩ : ∃ i, b.length = i + 1 := ⟨b.length - 1, by omega⟩
      rw [hi, readN, readN, e]
      have l1 : (b.drop n).length ≤ i := by rw [List.length_drop]; omega
      simp only
      rw [ih j (by omega) _ (by omega), ih i (by omega) _ l1]
omit hT in
theorem read_none {b : List UInt8} (h : firstF T b = none) : readF T b = ([], 0) := by
  have q : ∀ j, readN T j b = ([], 0) := fun j => by
    cases j with
    | zero => rfl
    | succ j => rw [readN, h]
  exact q _
omit hT in
theorem read_cons {b : List UInt8} {f : Frm} {n : Nat} (h : firstF T b = some (f, n)) : readF T b = (f :: (readF T (b.drop n)).1, n + (readF T (b.drop n)).2) := by
  obtain ⟨-, h2, h3, -⟩ := first_some h
  obtain ⟨i, hi⟩ : ∃ i, b.length = i + 1 := ⟨b.length - 1, by omega⟩
  unfold readF
  rw [hi, readN, h]
  simp only
  rw [readN_more i (b.drop n) (by rw [List.length_drop]; omega)]
omit hT in
theorem read_spec : ∀ (k : Nat) (b : List UInt8), b.length ≤ k → (∀ f ∈ (readF T b).1, okF f) ∧ (readF T b).2 ≤ b.length ∧ flatF T (readF T b).1 = b.take (readF T b).2 ∧ firstF T (b.drop (readF T b).2) = none ∧ ((readF T b).2 = 0 → (readF T b).1 = []) ∧ (readF T b).2 = ((readF T b).1.map fun f => f.body.length + 10).sum := by
  intro k
  induction k with
  | zero =>
    intro b hb
    have e : firstF T b = none := first_nil_of (by omega)
    rw [read_none e]
    exact ⟨(by intro f h; cases h), Nat.zero_le _, rfl, e, fun _ => rfl, rfl⟩
  | succ k ih =>
    intro b hb
    cases e : firstF T b with
    | none =>
      rw [read_none e]
      exact ⟨(by intro f h; cases h), Nat.zero_le _, rfl, e, fun _ => rfl, rfl⟩
    | some x =>
      obtain ⟨f, n⟩ := x
      obtain ⟨h1, h2, h3, h4⟩ := first_some e
      obtain ⟨i1, i2, i3, i4, -, i6⟩ := ih (b.drop n) (by rw [List.length_drop]; omega)
      rw [read_cons e]
      refine ⟨fun g hg => ?_, ?_, ?_, ?_, fun h => absurd h (by simp only; omega), ?_⟩
      · rcases List.mem_cons.1 hg with rfl | hg
        · exact h1
        · exact i1 g hg
      · rw [List.length_drop] at i2; show n + _ ≤ _; omega
      · show flatF T (f :: _) = b.take (n + _)
        rw [List.take_add, h4, ← i3]; rfl
      · show firstF T (b.drop (n + _)) = none
        rw [← List.drop_drop]; exact i4
      · show n + _ = (List.map _ (f :: _)).sum
        rw [List.map_cons, List.sum_cons, ← i6, h2]
omit hT in
theorem scanN_more : ∀ (k : Nat) (b : List UInt8), b.length ≤ k → scanN T k b = scanN T b.length b := by
  intro k
  induction k using Nat.strongRecOn with
  | ind k ih =>
    intro b hk
    cases b with
    | nil =>
      have q : ∀ j, scanN T j [] = ([], 0) := fun j => by
        cases j with
        | zero => rfl
        | succ j => rw [scanN, if_pos rfl]
      rw [q, q]
    | cons x b =>
      obtain ⟨j, rfl⟩ : ∃ j, k = j + 1 := ⟨k - 1, by simp at hk; omega⟩
      have hl : (x :: b).length = b.length + 1 := rfl
      have hd : ∀ n, 0 < n → ((x :: b).drop n).length ≤ b.length := fun n hn => by rw [List.length_drop, hl]; omega
      have e1 : ∀ n, 0 < n → scanN T j ((x :: b).drop n) = scanN T b.length ((x :: b).drop n) := fun n hn => by
        have hdn := hd n hn
        rw [ih j (by omega) _ (by omega), ih b.length (by omega) _ hdn]
      have u : ∀ i, scanN T (i + 1) (x :: b) = if x :: b = [] then ([], 0) else if (readF T (x :: b)).2 = 0 then ((scanN T i ((x :: b).drop 1)).1, (scanN T i ((x :: b).drop 1)).2 + 1) else ((readF T (x :: b)).1 ++ (scanN T i ((x :: b).drop (readF T (x :: b)).2)).1, (scanN T i ((x :: b).drop (readF T (x :: b)).2)).2) := fun i => by rw [scanN]
      rw [hl, u j, u b.length, e1 1 (by omega)]
      by_cases c : (readF T (x :: b)).2 = 0
      · rw [if_neg (List.cons_ne_nil x b), if_neg (List.cons_ne_nil x b), if_pos c, if_pos c]
      · rw [if_neg (List.cons_ne_nil x b), if_neg (List.cons_ne_nil x b), if_neg c, if_neg c, e1 _ (by omega)]
omit hT in
theorem scan_nil : scanF T [] = ([], 0) := rfl
omit hT in
theorem scan_lost {b : List UInt8} (hb : b ≠ []) (h : (readF T b).2 = 0) : scanF T b = ((scanF T (b.drop 1)).1, (scanF T (b.drop 1)).2 + 1) := by
  have hl : b.length ≠ 0 := fun e => hb (List.length_eq_zero_iff.1 e)
  obtain ⟨i, hi⟩ : ∃ i, b.length = i + 1 := ⟨b.length - 1, by omega⟩
  unfold scanF
  rw [hi, scanN, if_neg hb, if_pos h, scanN_more i (b.drop 1) (by rw [List.length_drop]; omega)]
omit hT in
theorem scan_found {b : List UInt8} (h : (readF T b).2 ≠ 0) : scanF T b = ((readF T b).1 ++ (scanF T (b.drop (readF T b).2)).1, (scanF T (b.drop (readF T b).2)).2) := by
  have hb : b ≠ [] := fun e => h (by rw [e, read_none (first_nil_of (by simp))])
  have hl : b.length ≠ 0 := fun e => hb (List.length_eq_zero_iff.1 e)
  obtain ⟨i, hi⟩ : ∃ i, b.length = i + 1 := ⟨b.length - 1, by omega⟩
  unfold scanF
  rw [hi, scanN, if_neg hb, if_neg h, scanN_more i (b.drop (readF T b).2) (by rw [List.length_drop]; omega)]
omit hT in
theorem scan_clean : ∀ (c : List UInt8) (_ : ∀ x ∈ c, x ≠ 170) (r : List UInt8), scanF T (c ++ r) = ((scanF T r).1, (scanF T r).2 + c.length) := by
  intro c
  induction c with
  | nil => intro _ r; rfl
  | cons x c ih =>
    intro h r
    have e : firstF T (x :: c ++ r) = none := first_mark (h x (List.mem_cons_self ..))
    rw [scan_lost (by simp) (by rw [read_none e])]
    show ((scanF T (c ++ r)).1, (scanF T (c ++ r)).2 + 1) = _
    rw [ih (fun y hy => h y (List.mem_cons_of_mem _ hy)) r]
    show (_, _ + c.length + 1) = (_, _ + (c.length + 1))
    rw [Nat.add_assoc]
end
end Go.Proofs.YtghjhdbmkilakaaGreatDoor

/-
  The codec: how values lie in memory; the contracts of kinds, known, Int, Text and List.
  Conditions: none.
-/
namespace Go.Proofs.YtghjhdbmkilakaaGreatDoor
open Go Bf
attribute [local irreducible] Tr Exec Stab HasTy Go.Addr.add IntKind.wrap
inductive Val
  | mk (k n : Int) (s : List UInt8) (l : List Val)
namespace Val
def k : Val → Int | mk k _ _ _ => k
def n : Val → Int | mk _ n _ _ => n
def s : Val → List UInt8 | mk _ _ s _ => s
def l : Val → List Val | mk _ _ _ l => l
end Val
/-- the cells of a value -/
inductive RVal (M : Mem) : List Value → Val → Prop
  | mk (k n : Int) (s : List UInt8) (l : List Val) (A : Option Addr) (c : Nat) (cells : List Value) (hk : -9223372036854775808 ≤ k ∧ k ≤ 9223372036854775807) (hn : -9223372036854775808 ≤ n ∧ n ≤ 9223372036854775807) (hs : s.length ≤ 9223372036854775807) (h1 : l.length ≤ c) (h2 : c ≤ 9223372036854775807) (h3 : A = none → l.length = 0) (h4 : Row M A l.length 4 cells)
      (h5 : ∀ (i : Nat) (x : Val), l[i]? = some x → RVal M ((cells.drop (i * 4)).take 4) x) : RVal M [.int .i64 k, .int .i64 n, .string ⟨s.toArray⟩, .slice A l.length c] (.mk k n s l)
theorem RVal.mono {M M' : Mem} {cs : List Value} {v : Val} (h : RVal M cs v) (hm : Mem.le M M') : RVal M' cs v := by
  induction h with
  | mk k n s l A c cells hk hn hs h1 h2 h3 h4 h5 ih => exact .mk k n s l A c cells hk hn hs h1 h2 h3 (h4.mono hm) ih
theorem RVal.mono' (M M' : Mem) (c : List Value) (x : Val) (hm : Mem.le M M') (h : RVal M c x) : RVal M' c x := h.mono hm
/-- a list of values -/
abbrev RVals (M : Mem) (v : Value) (l : List Val) : Prop := SlOf 4 (fun M c x => RVal M c x) M v l
theorem RVal.open_ {M : Mem} {cs : List Value} {v : Val} (h : RVal M cs v) : ∃ A c, cs = [.int .i64 v.k, .int .i64 v.n, .string ⟨v.s.toArray⟩, .slice A v.l.length c] ∧ RVals M (.slice A v.l.length c) v.l ∧
    (-9223372036854775808 ≤ v.k ∧ v.k ≤ 9223372036854775807) ∧ (-9223372036854775808 ≤ v.n ∧ v.n ≤ 9223372036854775807) ∧ v.s.length ≤ 9223372036854775807 := by
  obtain ⟨k, n, s, l, A, c, cells, hk, hn, hs, h1, h2, h3, h4, h5⟩ := h
  exact ⟨A, c, rfl, ⟨A, c, cells, rfl, h1, h2, h3, h4, h5⟩, hk, hn, hs⟩
theorem RVal.close {M : Mem} {k n : Int} {s : List UInt8} {l : List Val} {A : Option Addr} {c : Nat} (hk : -9223372036854775808 ≤ k ∧ k ≤ 9223372036854775807) (hn : -9223372036854775808 ≤ n ∧ n ≤ 9223372036854775807) (hs : s.length ≤ 9223372036854775807) (h : RVals M (.slice A l.length c) l) :
    RVal M [.int .i64 k, .int .i64 n, .string ⟨s.toArray⟩, .slice A l.length c] (.mk k n s l) := by
  obtain ⟨A', c', cells, e, h1, h2, h3, h4, h5⟩ := h
  cases e
  exact .mk k n s l A c cells hk hn hs h1 h2 h3 h4 h5
/-- a value as a result -/
def RV (M : Mem) (r : Value) (v : Val) : Prop := ∃ cs : List Value, r = .agg cs.toArray ∧ RVal M cs v
theorem RV.mono {M M' : Mem} {r : Value} {v : Val} (h : RV M r v) (hm : Mem.le M M') : RV M' r v := let ⟨cs, e, h⟩ := h; ⟨cs, e, h.mono hm⟩
theorem RV.open_ {M : Mem} {r : Value} {v : Val} (h : RV M r v) : ∃ A c, r = .agg #[.int .i64 v.k, .int .i64 v.n, .string ⟨v.s.toArray⟩, .slice A v.l.length c] ∧ RV M (.agg #[.int .i64 v.k, .int .i64 v.n, .string ⟨v.s.toArray⟩, .slice A v.l.length c]) v ∧ RVals M (.slice A v.l.length c) v.l ∧
    (-9223372036854775808 ≤ v.k ∧ v.k ≤ 9223372036854775807) ∧ (-9223372036854775808 ≤ v.n ∧ v.n ≤ 9223372036854775807) ∧ v.s.length ≤ 9223372036854775807 := by
  obtain ⟨cs, rfl, h⟩ := h
  obtain ⟨A, c, rfl, h1, h2⟩ := h.open_
  exact ⟨A, c, rfl, ⟨_, rfl, h⟩, h1, h2⟩
def zVal : Val := .mk 0 0 [] []
theorem RVal.zero (M : Mem) : RVal M [.int .i64 0, .int .i64 0, .string ⟨#[]⟩, .slice none 0 0] zVal := RVal.close (A := none) (c := 0) (l := []) (s := []) (by omega) (by omega) (by simp) (SlOf.nil _ _ _)

set_option maxHeartbeats 1000000 in
theorem known_fn (M : Mem) (k : Int) : Fn0 Tryz.prog 98 [.int .i64 k] M (fun r M' => r = .bool (decide (1 ≤ k ∧ k ≤ 3)) ∧ M = M') := by
  refine Fn.intro Tryz.func98 rfl rfl Tryz.ntmps98 rfl fun E F => ?_
  repeat' (first | ((with_reducible refine Tr.step rfl ?_); (first | (refine xmQ (z := ?_)) | (refine xaQ (z := ?_)) | (refine xiQ (z := ?_)) | ((with_reducible refine Knd.pick ?_); (first | (refine Exec.stab rfl (Stab.pick_td rfl (by first | (with_reducible assumption) | omega) rfl) rfl ?_) | (refine Exec.stab rfl (Stab.pick_fd rfl (by first | (with_reducible assumption) | omega) rfl) rfl ?_))))) | (with_reducible first | apply Tr.next | apply Tr.seq | apply Tr.region | apply Tr.nil) | ((refine Tr.guard_y rfl rfl rfl (by first | (with_reducible assumption) | omega) ?_); ((refine xiQ (z := ?_)))) | (refine Tr.guard_n rfl rfl rfl (by first | (with_reducible assumption) | omega) rfl rfl ?_) | (with_reducible refine Tr.ret ?_) | ((refine xmQ (z := ?_))) | ((refine Tr.guardd rfl rfl rfl rfl rfl (fun hg => ?_) (fun hg => ?_))))
  all_goals
    (refine dnQ (hL := by exact ⟨[], rfl⟩) (k := ⟨rfl, ?_⟩))
    exact ⟨by simp [resVal]; omega, rfl⟩
def fv (f : Nat) : Value := .func (.func f) #[] #[]
def kindsV : Value := .agg #[.nilFunc, .nilFunc, .nilFunc, .nilFunc, fv 74, fv 75, fv 78, fv 80, fv 81, fv 82, fv 83, fv 84, fv 85, fv 86, fv 87, fv 88]
set_option maxHeartbeats 1000000 in
theorem kinds_fn (M : Mem) : Fn0 Tryz.prog 42 [] M (fun r M' => r = kindsV ∧ M = M') := by
  refine Fn.intro Tryz.func42 rfl rfl Tryz.ntmps42 rfl fun E F => ?_
  repeat (first | ((with_reducible refine Tr.step rfl ?_); (first | (refine xWQ (z := ?_)) | ((with_reducible refine Knd.alloc ?_); (first | (refine Exec.alloc (tysOk.get rfl) rfl rfl (fun b => ?_)) | (refine Exec.alloc1 (tysOk.get rfl) rfl rfl rfl (fun b => ?_)))) | ((with_reducible refine Knd.build ?_); (first | (refine Exec.stab rfl (Stab.build tysOk rfl rfl rfl rfl (by repeat (first | exact BuildP.nil | ((apply BuildP.one); (rfl); (rfl); (first | rfl | assumption); (repeat (first | exact SetL.z | apply SetL.s)))))) rfl ?_) | (refine Exec.stab rfl (Stab.buildA (tysOk.get rfl) rfl (tysOk.get rfl) rfl rfl (by repeat (first | exact BuildP.nil | ((apply BuildP.many); (rfl); (rfl); (rfl); (rfl); (repeat (first | exact PutL.nil | ((apply PutL.cons); (repeat (first | exact SetL.z | apply SetL.s))))))))) rfl ?_))))) | (with_reducible first | apply Tr.next | apply Tr.seq | apply Tr.region | apply Tr.nil | apply Tr.ret))
  (refine Tr.done (by first | exact .inl rfl | exact .inr rfl) rfl (by repeat (first | exact RVs.nil | (apply RVs.cons; (exact RV.cellW (by rfl) (tysOk.get (by rfl)) (by rfl) (by repeat (first | exact Has.here | apply Has.there)) (by rfl))))) (by first | exact Mem.le.refl _ | assumption) (by exact ⟨[_], rfl⟩) ⟨rfl, ?_⟩)
  exact ⟨rfl, rfl⟩
set_option maxHeartbeats 1000000 in
theorem int_fn (M : Mem) (n : Int) (hn : -9223372036854775808 ≤ n ∧ n ≤ 9223372036854775807) : Fn0 Tryz.prog 50 [.int .i64 n] M (fun r M' => RV M r (.mk 1 n [] []) ∧ M = M') := by
  refine Fn.intro Tryz.func50 rfl rfl Tryz.ntmps50 rfl fun E F => ?_
  repeat (first | ((with_reducible refine Tr.step rfl ?_); (first | (refine xmQ (z := ?_)) | (refine xWQ (z := ?_)) | ((with_reducible refine Knd.alloc ?_); (first | (refine Exec.alloc (tysOk.get rfl) rfl rfl (fun b => ?_)) | (refine Exec.alloc1 (tysOk.get rfl) rfl rfl rfl (fun b => ?_)))) | ((with_reducible refine Knd.build ?_); ((refine Exec.stab rfl (Stab.build tysOk rfl rfl rfl rfl (by repeat (first | exact BuildP.nil | ((apply BuildP.one); (rfl); (rfl); (first | rfl | assumption); (repeat (first | exact SetL.z | apply SetL.s)))))) rfl ?_))))) | (with_reducible first | apply Tr.next | apply Tr.seq | apply Tr.region | apply Tr.nil | apply Tr.ret))
  (refine Tr.done (by first | exact .inl rfl | exact .inr rfl) rfl (by repeat (first | exact RVs.nil | (apply RVs.cons; (exact RV.cellW (by rfl) (tysOk.get (by rfl)) (by rfl) (by repeat (first | exact Has.here | apply Has.there)) (by rfl))))) (by first | exact Mem.le.refl _ | assumption) (by exact ⟨[_], rfl⟩) ⟨rfl, ?_⟩)
  exact ⟨⟨_, rfl, RVal.close (A := none) (c := 0) (l := []) (s := []) (by omega) hn (by simp) (SlOf.nil _ _ _)⟩, rfl⟩
set_option maxHeartbeats 1000000 in
theorem text_fn (M : Mem) (s : List UInt8) (hs : s.length ≤ 9223372036854775807) : Fn0 Tryz.prog 52 [.string ⟨s.toArray⟩] M (fun r M' => RV M r (.mk 2 0 s []) ∧ M = M') := by
  refine Fn.intro Tryz.func52 rfl rfl Tryz.ntmps52 rfl fun E F => ?_
  repeat (first | ((with_reducible refine Tr.step rfl ?_); (first | (refine xmQ (z := ?_)) | (refine xWQ (z := ?_)) | ((with_reducible refine Knd.alloc ?_); (first | (refine Exec.alloc (tysOk.get rfl) rfl rfl (fun b => ?_)) | (refine Exec.alloc1 (tysOk.get rfl) rfl rfl rfl (fun b => ?_)))) | ((with_reducible refine Knd.build ?_); ((refine Exec.stab rfl (Stab.build tysOk rfl rfl rfl rfl (by repeat (first | exact BuildP.nil | ((apply BuildP.one); (rfl); (rfl); (first | rfl | assumption); (repeat (first | exact SetL.z | apply SetL.s)))))) rfl ?_))))) | (with_reducible first | apply Tr.next | apply Tr.seq | apply Tr.region | apply Tr.nil | apply Tr.ret))
  (refine Tr.done (by first | exact .inl rfl | exact .inr rfl) rfl (by repeat (first | exact RVs.nil | (apply RVs.cons; (exact RV.cellW (by rfl) (tysOk.get (by rfl)) (by rfl) (by repeat (first | exact Has.here | apply Has.there)) (by rfl))))) (by first | exact Mem.le.refl _ | assumption) (by exact ⟨[_], rfl⟩) ⟨rfl, ?_⟩)
  exact ⟨⟨_, rfl, RVal.close (A := none) (c := 0) (l := []) (by omega) (by omega) hs (SlOf.nil _ _ _)⟩, rfl⟩
set_option maxHeartbeats 1000000 in
theorem list_fn (M : Mem) (A : Option Addr) (c : Nat) (l : List Val) (h : RVals M (.slice A l.length c) l) : Fn0 Tryz.prog 49 [.slice A l.length c] M (fun r M' => RV M r (.mk 3 0 [] l) ∧ M = M') := by
  refine Fn.intro Tryz.func49 rfl rfl Tryz.ntmps49 rfl fun E F => ?_
  repeat (first | ((with_reducible refine Tr.step rfl ?_); (first | (refine xmQ (z := ?_)) | (refine xWQ (z := ?_)) | ((with_reducible refine Knd.alloc ?_); (first | (refine Exec.alloc (tysOk.get rfl) rfl rfl (fun b => ?_)) | (refine Exec.alloc1 (tysOk.get rfl) rfl rfl rfl (fun b => ?_)))) | ((with_reducible refine Knd.build ?_); ((refine Exec.stab rfl (Stab.build tysOk rfl rfl rfl rfl (by repeat (first | exact BuildP.nil | ((apply BuildP.one); (rfl); (rfl); (first | rfl | assumption); (repeat (first | exact SetL.z | apply SetL.s)))))) rfl ?_))))) | (with_reducible first | apply Tr.next | apply Tr.seq | apply Tr.region | apply Tr.nil | apply Tr.ret))
  (refine Tr.done (by first | exact .inl rfl | exact .inr rfl) rfl (by repeat (first | exact RVs.nil | (apply RVs.cons; (exact RV.cellW (by rfl) (tysOk.get (by rfl)) (by rfl) (by repeat (first | exact Has.here | apply Has.there)) (by rfl))))) (by first | exact Mem.le.refl _ | assumption) (by exact ⟨[_], rfl⟩) ⟨rfl, ?_⟩)
  exact ⟨⟨_, rfl, RVal.close (s := []) (by omega) (by omega) (by simp) h⟩, rfl⟩
end Go.Proofs.YtghjhdbmkilakaaGreatDoor

/-
  The codec: numerals; the contracts of Len64, digits, unsigned and numeral, and of the reference's.
  Conditions: none.
-/
namespace Go.Proofs.YtghjhdbmkilakaaGreatDoor
open Go Bf
attribute [local irreducible] Tr Exec Stab HasTy Go.Addr.add IntKind.wrap
/-- the numeral of a number -/
def num (u : Nat) : List UInt8 := if h : u < 128 then [UInt8.ofNat u] else UInt8.ofNat (u % 128 + 128) :: num (u / 128)
termination_by u
decreasing_by omega
theorem num_small {u : Nat} (h : u < 128) : num u = [UInt8.ofNat u] := by rw [num]; simp [h]
theorem num_big {u : Nat} (h : 128 ≤ u) : num u = UInt8.ofNat (u % 128 + 128) :: num (u / 128) := by rw [num]; simp [show ¬ u < 128 by omega]
theorem bV (u : Nat) (h : u < 256) : [Value.int .u8 (u : Int)] = byteV [UInt8.ofNat u] := by
  simp [byteV, UInt8.toNat_ofNat', Nat.mod_eq_of_lt h]
/-- how many bits a number has -/
def bl (u : Nat) : Nat := if u = 0 then 0 else Nat.log2 u + 1
theorem bl_shift {u k : Nat} (h : 2 ^ k ≤ u) : bl u = bl (u / 2 ^ k) + k := by
  have hp : 0 < 2 ^ k := Nat.two_pow_pos k
  have h0 : u ≠ 0 := by omega
  have h1 : u / 2 ^ k ≠ 0 := by
    have := Nat.div_pos h hp
    omega
  simp only [bl, if_neg h0, if_neg h1]
  have key : ∀ m, m ≤ Nat.log2 (u / 2 ^ k) ↔ m + k ≤ Nat.log2 u := fun m => by
    rw [Nat.le_log2 h1, Nat.le_log2 h0, Nat.le_div_iff_mul_le hp, Nat.pow_add]
  have : k ≤ Nat.log2 u := (Nat.le_log2 h0).2 h
  have k1 := (key (Nat.log2 (u / 2 ^ k))).1 (Nat.le_refl _)
  have k2 := (key (Nat.log2 u - k)).2 (by omega)
  omega
theorem num_len (u : Nat) : (num u).length = max 1 ((bl u + 6) / 7) := by
  induction u using Nat.strongRecOn with
  | _ u ih =>
    by_cases h : u < 128
    · rw [num_small h]
      have : ∀ u : Fin 128, (1 : Nat) = max 1 ((bl u.val + 6) / 7) := by decide
      exact this ⟨u, h⟩
    · have h7 := bl_shift (u := u) (k := 7) (by omega)
      rw [num_big (by omega), List.length_cons, ih (u / 128) (by omega)]
      have e : u / 2 ^ 7 = u / 128 := rfl
      rw [e] at h7
      have hpos : u / 128 ≠ 0 := by omega
      have : 1 ≤ bl (u / 128) := by simp [bl, hpos]
      omega
theorem bl_le {u : Nat} (h : u < 2 ^ 64) : bl u ≤ 64 := by
  unfold bl
  split
  · omega
  · rename_i h0
    have := (Nat.log2_lt h0).2 h
    omega
theorem num_len_le {u : Nat} (h : u < 2 ^ 64) : (num u).length ≤ 10 := by
  have := bl_le h
  rw [num_len]; omega
/-- the unsigned form of an integer -/
def zz (n : Int) : Nat := if 0 ≤ n then (2 * n).toNat else (- 2 * n - 1).toNat
theorem zz_lt {n : Int} (h : -9223372036854775808 ≤ n ∧ n ≤ 9223372036854775807) : zz n < 2 ^ 64 := by
  unfold zz; split <;> omega

set_option maxHeartbeats 1000000 in
theorem runsigned_fn (M : Mem) (n : Int) (hn : -9223372036854775808 ≤ n ∧ n ≤ 9223372036854775807) : Fn0 Tryz.prog 95 [.int .i64 n] M (fun r M' => r = .int .u64 (zz n : Int) ∧ M = M') := by
  refine Fn.intro Tryz.func95 rfl rfl Tryz.ntmps95 rfl fun E F => ?_
  by_cases h : 0 ≤ n
  · repeat (first | ((with_reducible refine Tr.step rfl ?_); (first | (refine xmQ (z := ?_)) | (refine xaQ (z := ?_)) | ((with_reducible refine Knd.binOp ?_); (first | (refine Exec.stab rfl (Stab.mulu64 rfl rfl (by omega)) rfl ?_) | (refine xiQ (z := ?_)))) | ((with_reducible refine Knd.convert ?_); ((refine Exec.stab rfl (Stab.convu64 rfl (tysOk.get rfl) (tysOk.get rfl) rfl rfl (by omega)) rfl ?_))))) | (with_reducible first | apply Tr.next | apply Tr.seq | apply Tr.region | apply Tr.nil | apply Tr.ret | apply Tr.then_ret) | (refine Tr.cond_t rfl (by first | (with_reducible assumption) | omega) ?_))
    (refine dnQ (hL := by exact ⟨[], rfl⟩) (k := ⟨rfl, ?_⟩))
    exact ⟨by show Value.int .u64 (2 * n) = _; congr 1; unfold zz; rw [if_pos h]; omega, rfl⟩
  · repeat (first | ((with_reducible refine Tr.step rfl ?_); (first | (refine xmQ (z := ?_)) | (refine xaQ (z := ?_)) | ((with_reducible refine Knd.binOp ?_); (first | (refine Exec.stab rfl (Stab.addu64 rfl rfl (by omega)) rfl ?_) | (refine Exec.stab rfl (Stab.mulu64 rfl rfl (by omega)) rfl ?_) | (refine xdQ (z := ?_)) | (refine xiQ (z := ?_)))) | ((with_reducible refine Knd.unOp ?_); ((refine Exec.stab rfl (Stab.neg rfl (by omega)) rfl ?_))) | ((with_reducible refine Knd.convert ?_); ((refine Exec.stab rfl (Stab.convu64 rfl (tysOk.get rfl) (tysOk.get rfl) rfl rfl (by omega)) rfl ?_))))) | (with_reducible first | apply Tr.next | apply Tr.seq | apply Tr.region | apply Tr.nil | apply Tr.skip | apply Tr.ret) | (refine Tr.cond_f rfl (by first | (with_reducible assumption) | omega) ?_))
    (refine dnQ (hL := by exact ⟨[], rfl⟩) (k := ⟨rfl, ?_⟩))
    exact ⟨by show Value.int .u64 (2 * -(n + 1) + 1) = _; congr 1; unfold zz; rw [if_neg h]; omega, rfl⟩
set_option maxHeartbeats 1000000 in
theorem unsigned_fn (M : Mem) (n : Int) (hn : -9223372036854775808 ≤ n ∧ n ≤ 9223372036854775807) : Fn0 Tryz.prog 77 [.int .i64 n] M (fun r M' => r = .int .u64 (zz n : Int) ∧ M = M') := by
  refine Fn.intro Tryz.func77 rfl rfl Tryz.ntmps77 rfl fun E F => ?_
  by_cases h : 0 ≤ n
  · repeat (first | ((with_reducible refine Tr.step rfl ?_); (first | (refine xmQ (z := ?_)) | (refine xaQ (z := ?_)) | ((with_reducible refine Knd.binOp ?_); (first | (refine Exec.stab rfl (Stab.shlc64 1 (p := 2) rfl rfl rfl rfl (by omega)) rfl ?_) | (refine Exec.stab rfl (Stab.shrc 63 (p := 9223372036854775808) rfl rfl rfl rfl) rfl ?_) | (refine xiQ (z := ?_)))) | ((with_reducible refine Knd.convert ?_); ((refine Exec.stab rfl (Stab.convu64 rfl (tysOk.get rfl) (tysOk.get rfl) rfl rfl (by omega)) rfl ?_))))) | (with_reducible first | apply Tr.next | apply Tr.seq | apply Tr.region | apply Tr.nil | apply Tr.ret))
    (refine dnQ (hL := by exact ⟨[], rfl⟩) (k := ⟨rfl, ?_⟩))
    refine ⟨?_, rfl⟩
    show Value.int .u64 (Go.bits .xor .u64 (n * 2) (n / 9223372036854775808)) = _
    rw [show n / 9223372036854775808 = 0 by omega, bits_xor0u (by omega)]
    congr 1
    unfold zz
    rw [if_pos h]
    omega
  · repeat (first | ((with_reducible refine Tr.step rfl ?_); (first | (refine xmQ (z := ?_)) | (refine xaQ (z := ?_)) | ((with_reducible refine Knd.convert ?_); ((refine Exec.stab rfl (Stab.conv rfl (tysOk.get rfl) (tysOk.get rfl) rfl rfl) rfl ?_))))) | (with_reducible first | apply Tr.next | apply Tr.seq | apply Tr.region | apply Tr.nil))
    have e1 : IntKind.u64.wrap n = n + 18446744073709551616 := by rw [IntKind.wrap_u64]; omega
    have e2 : IntKind.u64.wrap ((n + 18446744073709551616) * 2 ^ min (Int.toNat 1) IntKind.u64.bits) = 2 * n + 18446744073709551616 := by
      have : min (Int.toNat 1) IntKind.u64.bits = 1 := rfl
      rw [this, IntKind.wrap_u64]
      omega
    have e3 : n / 9223372036854775808 = -1 := by omega
    have e4 : IntKind.u64.wrap (-1) = 18446744073709551615 := by rw [IntKind.wrap_u64]; omega
    rw [e1]
    refine Tr.step rfl ?_
    refine Exec.stab rfl (Stab.shl rfl rfl (by omega)) rfl ?_
    rw [e2]
    repeat (first | ((with_reducible refine Tr.step rfl ?_); (first | (refine xmQ (z := ?_)) | (refine xaQ (z := ?_)) | ((with_reducible refine Knd.binOp ?_); (first | (refine Exec.stab rfl (Stab.shrc 63 (p := 9223372036854775808) rfl rfl rfl rfl) rfl ?_) | (refine xiQ (z := ?_)))) | ((with_reducible refine Knd.convert ?_); ((refine Exec.stab rfl (Stab.conv rfl (tysOk.get rfl) (tysOk.get rfl) rfl rfl) rfl ?_))))) | (with_reducible first | apply Tr.next | apply Tr.nil | apply Tr.ret))
    (refine dnQ (hL := by exact ⟨[], rfl⟩) (k := ⟨rfl, ?_⟩))
    refine ⟨?_, rfl⟩
    show Value.int .u64 (Go.bits .xor .u64 (2 * n + 18446744073709551616) (IntKind.u64.wrap (n / 9223372036854775808))) = _
    rw [e3, e4, bits_xor_ones (by omega)]
    congr 1
    unfold zz
    rw [if_neg h]
    omega
/-- a slice of bytes that may grow, as a result -/
def OwnB (bs : List UInt8) (r : Value) (A' : List Res) : Prop := ∃ A c, r = .slice A bs.length c ∧ c ≤ 9223372036854775807 ∧ A' = [ownS 5 1 A bs.length c (byteV bs)]
set_option maxHeartbeats 1000000 in
theorem numeral_fn (M : Mem) (A : Option Addr) (c : Nat) (bs : List UInt8) (u : Nat) (hu : u < 2 ^ 64) (hc : c ≤ 9223372036854775807) (hl : bs.length ≤ 1000000000000) :
    Bf.Fn Tryz.prog 79 [.slice A bs.length c, .int .u64 (u : Int)] M [ownS 5 1 A bs.length c (byteV bs)] (fun r M' A' => M = M' ∧ OwnB (bs ++ num u) r A') := by
  refine Fn.intro Tryz.func79 rfl rfl Tryz.ntmps79 rfl fun E F => ?_
  repeat (first | ((with_reducible refine Tr.step rfl ?_); ((refine xaQ (z := ?_)))) | (with_reducible first | apply Tr.next | apply Tr.seq | apply Tr.region | apply Tr.nil | apply Tr.block))
  refine Tr.loop (α := Nat × List UInt8 × Option Addr × Nat) (fun x => ⟨21, [(4, .slice none 0 0), (0, .slice x.2.2.1 x.2.1.length x.2.2.2), (1, .int .u64 x.1)], [], M, ownS 5 1 x.2.2.1 x.2.1.length x.2.2.2 (byteV x.2.1) :: ([] ++ F)⟩)
    (fun x => x.1 < 2 ^ 64 ∧ x.2.2.2 ≤ 9223372036854775807 ∧ x.2.1 ++ num x.1 = bs ++ num u) (fun x => x.1) (u, bs, A, c) ⟨hu, hc, rfl⟩ hsQ (fun x hi => ?_)
  obtain ⟨v, cs, B, k⟩ := x
  obtain ⟨h1, h2, h3⟩ := hi
  simp only at h1 h2 h3
  dsimp only
  have hlen : cs.length + (num v).length = bs.length + (num u).length := by
    have := congrArg List.length h3
    simpa using this
  have hnu := num_len_le hu
  by_cases h : 128 ≤ v
  · have hr : ((v : Int) % 128 + 128) = ((v % 128 + 128 : Nat) : Int) := by omega
    have hq : ((v : Int) / 128) = ((v / 128 : Nat) : Int) := by omega
    repeat (first | ((with_reducible refine Tr.step rfl ?_); (first | (refine xmQ (z := ?_)) | ((with_reducible refine Knd.binOp ?_); (first | (refine Exec.stab rfl (Stab.addu8 rfl rfl (by omega)) rfl ?_) | (refine Exec.stab rfl (Stab.and64 7 rfl rfl rfl rfl (by omega) (p := 128) rfl) rfl ?_) | (refine xiQ (z := ?_)))) | ((with_reducible refine Knd.convert ?_); ((refine Exec.stab rfl (Stab.convu8 rfl (tysOk.get rfl) (tysOk.get rfl) rfl rfl (by omega)) rfl ?_))) | ((with_reducible refine Knd.buildSlice ?_); (refine Exec.buildSlice (tysOk.get rfl) rfl (tysOk.get rfl) rfl rfl rfl rfl rfl (by repeat (first | exact BuildP.nil | ((apply BuildP.one); (rfl); (rfl); (first | rfl | assumption); (repeat (first | exact SetL.z | apply SetL.s))))) rfl (fun b => ?_))))) | (with_reducible first | apply Tr.next | apply Tr.seq | apply Tr.region | apply Tr.nil | apply Tr.skip | apply Tr.block) | (refine Tr.cond_t rfl (by first | (with_reducible assumption) | omega) ?_))
    rw [hr]
    refine Tr.cells (cs' := byteV [UInt8.ofNat (v % 128 + 128)]) (by repeat (first | exact Upd.here | apply Upd.there)) (bV _ (by omega)) ?_
    ((refine Tr.step rfl ?_))
    refine Exec.append (news := byteV [UInt8.ofNat (v % 128 + 128)]) rfl rfl (tysOk.get rfl) rfl (tysOk.get rfl) rfl rfl rfl rfl (by repeat (first | exact Del.here | apply Del.there)) (Src.box (by repeat (first | exact Has.here | apply Has.there))) (by simp) (byteV_one _) (by omega) (by omega) rfl (fun A2 c2 hc2 => ?_)
    rw [← byteV_append, show cs.length + 1 = (cs ++ [UInt8.ofNat (v % 128 + 128)]).length by simp]
    repeat (first | ((with_reducible refine Tr.step rfl ?_); (first | (refine xmQ (z := ?_)) | (refine xaQ (z := ?_)) | ((with_reducible refine Knd.binOp ?_); ((refine Exec.stab rfl (Stab.shrc 7 (p := 128) rfl rfl rfl rfl) rfl ?_))))) | (with_reducible first | apply Tr.next | apply Tr.region | apply Tr.nil | apply Tr.in_normal))
    rw [hq]
    refine gvQ (r := box _ 5 _) (k := ?_)
    refine Tr.again (v / 128, cs ++ [UInt8.ofNat (v % 128 + 128)], A2, c2) ⟨by simp only; omega, hc2, by simp only; rw [← h3, num_big (u := v) h]; simp⟩ (by simp only; omega) hsQ
  · repeat (first | ((with_reducible refine Tr.step rfl ?_); (first | (refine xmQ (z := ?_)) | (refine xiQ (z := ?_)) | ((with_reducible refine Knd.convert ?_); ((refine Exec.stab rfl (Stab.convu8 rfl (tysOk.get rfl) (tysOk.get rfl) rfl rfl (by omega)) rfl ?_))) | ((with_reducible refine Knd.buildSlice ?_); (refine Exec.buildSlice (tysOk.get rfl) rfl (tysOk.get rfl) rfl rfl rfl rfl rfl (by repeat (first | exact BuildP.nil | ((apply BuildP.one); (rfl); (rfl); (first | rfl | assumption); (repeat (first | exact SetL.z | apply SetL.s))))) rfl (fun b => ?_))))) | (with_reducible first | apply Tr.next | apply Tr.seq | apply Tr.region | apply Tr.nil | apply Tr.exit | apply Tr.then_exit) | ((with_reducible refine Tr.in_exit ?_ ?_); (exact rfl)) | (refine Tr.cond_f rfl (by first | (with_reducible assumption) | omega) ?_))
    refine Tr.cells (cs' := byteV (num v)) (by repeat (first | exact Upd.here | apply Upd.there)) (by rw [num_small (by omega)]; exact bV v (by omega)) ?_
    ((refine Tr.step rfl ?_))
    have hnv : (num v).length = 1 := by rw [num_small (by omega)]; rfl
    refine Exec.append (news := byteV (num v)) rfl rfl (tysOk.get rfl) rfl (tysOk.get rfl) rfl rfl rfl rfl (by repeat (first | exact Del.here | apply Del.there)) (Src.box (by repeat (first | exact Has.here | apply Has.there))) (by simp [hnv]) (byteV_one _) (by omega) (by omega) rfl (fun A2 c2 hc2 => ?_)
    rw [← byteV_append, h3, show cs.length + 1 = (bs ++ num u).length by simp; omega]
    repeat (first | ((with_reducible refine Tr.step rfl ?_); ((refine xaQ (z := ?_)))) | (with_reducible first | apply Tr.next | apply Tr.nil | apply Tr.ret))
    refine Tr.doneA (A' := [ownS 5 1 A2 (bs ++ num u).length c2 (byteV (bs ++ num u))]) (by first | exact .inl rfl | exact .inr rfl) rfl (by repeat (first | exact RVs.nil | (apply RVs.cons; (exact RV.tmp rfl)))) (Mem.le.refl _) ⟨fun r hr => by simp at hr ⊢; rcases hr with rfl | hr <;> simp_all, fun h => by simp only [List.flatMap_append, List.flatMap_cons, List.flatMap_nil, List.append_nil, List.nil_append, List.nodup_append, List.cons_append] at h ⊢; exact ⟨h.1, h.2.1.2.1, fun a ha b hb => h.2.2 a ha b (by simp [hb])⟩⟩ ⟨rfl, A2, c2, rfl, hc2, rfl⟩
set_option maxHeartbeats 1000000 in
theorem rnumeral_fn (M : Mem) : ∀ (u : Nat), u < 2 ^ 64 → Fn0 Tryz.prog 94 [.int .u64 (u : Int)] M (fun r M' => ∃ A c, r = .slice A (num u).length c ∧ BSl M' (.slice A (num u).length c) (num u)) := by
  intro u
  induction u using Nat.strongRecOn with
  | _ u ih =>
    intro hu
    refine Fn.intro Tryz.func94 rfl rfl Tryz.ntmps94 rfl fun E F => ?_
    by_cases h : u < 128
    · repeat (first | ((with_reducible refine Tr.step rfl ?_); (first | (refine xmQ (z := ?_)) | (refine xaQ (z := ?_)) | (refine xiQ (z := ?_)) | ((with_reducible refine Knd.convert ?_); ((refine Exec.stab rfl (Stab.convu8 rfl (tysOk.get rfl) (tysOk.get rfl) rfl rfl (by omega)) rfl ?_))) | ((with_reducible refine Knd.buildSlice ?_); (refine Exec.buildSlice (tysOk.get rfl) rfl (tysOk.get rfl) rfl rfl rfl rfl rfl (by repeat (first | exact BuildP.nil | ((apply BuildP.one); (rfl); (rfl); (first | rfl | assumption); (repeat (first | exact SetL.z | apply SetL.s))))) rfl (fun b => ?_))))) | (with_reducible first | apply Tr.next | apply Tr.seq | apply Tr.region | apply Tr.nil | apply Tr.ret | apply Tr.then_ret) | (refine Tr.cond_t rfl (by first | (with_reducible assumption) | omega) ?_))
      refine Tr.cells (cs' := byteV (num u)) (by repeat (first | exact Upd.here | apply Upd.there)) (by rw [num_small h]; exact bV u (by omega)) ?_
      refine Tr.publish (by repeat (first | exact Del.here | apply Del.there)) (fun M' hm hok => ?_)
      (refine dnQ (hL := by exact ⟨[], rfl⟩) (k := ⟨rfl, ?_⟩))
      have := BSl.ofBox hok (by rw [num_small h]; simp)
      rw [num_small h] at this ⊢
      exact ⟨_, _, rfl, this⟩
    · have hq : ((u : Int) / 128) = ((u / 128 : Nat) : Int) := by omega
      have hr : ((u : Int) % 128 + 128) = ((u % 128 + 128 : Nat) : Int) := by omega
      have h128 : u / 128 < 2 ^ 64 := by omega
      have hl := num_len_le h128
      repeat (first | ((with_reducible refine Tr.step rfl ?_); (first | (refine xmQ (z := ?_)) | (refine xaQ (z := ?_)) | ((with_reducible refine Knd.binOp ?_); (first | (refine Exec.stab rfl (Stab.addu64 rfl rfl (by omega)) rfl ?_) | (refine xiQ (z := ?_)) | (refine Exec.stab rfl (Stab.remp rfl rfl (by omega) (by omega)) rfl ?_) | (refine Exec.stab rfl (Stab.quou64 rfl rfl (by omega) (by omega) (by omega)) rfl ?_))) | ((with_reducible refine Knd.convert ?_); ((refine Exec.stab rfl (Stab.convu8 rfl (tysOk.get rfl) (tysOk.get rfl) rfl rfl (by omega)) rfl ?_))) | ((with_reducible refine Knd.buildSlice ?_); (refine Exec.buildSlice (tysOk.get rfl) rfl (tysOk.get rfl) rfl rfl rfl rfl rfl (by repeat (first | exact BuildP.nil | ((apply BuildP.one); (rfl); (rfl); (first | rfl | assumption); (repeat (first | exact SetL.z | apply SetL.s))))) rfl (fun b => ?_))))) | (with_reducible first | apply Tr.next | apply Tr.seq | apply Tr.region | apply Tr.nil | apply Tr.skip) | (refine Tr.cond_f rfl (by first | (with_reducible assumption) | omega) ?_))
      rw [hq, hr]
      refine Tr.cells (cs' := byteV [UInt8.ofNat (u % 128 + 128)]) (by repeat (first | exact Upd.here | apply Upd.there)) (bV _ (by omega)) ?_
      ((refine Tr.step rfl ?_)); refine Exec.call0 rfl (ih (u / 128) (by omega) h128) rfl ?_
      rintro _ M1 hm1 ⟨A1, c1, rfl, hb1⟩
      have hcap := hb1.cap
      refine Tr.box_own 1 1 (by repeat (first | exact Upd.here | apply Upd.there)) rfl (byteV_one _) (by simp [maxLen]) ?_
      ((refine Tr.step rfl ?_))
      refine Exec.append (news := byteV (num (u / 128))) rfl rfl (tysOk.get rfl) rfl (tysOk.get rfl) rfl rfl rfl rfl (by repeat (first | exact Del.here | apply Del.there)) (Src.row hcap.2.2.2) (by simp) (byteV_one _) (by omega) (by omega) rfl (fun A2 c2 hc2 => ?_)
      rw [← byteV_append]
      have e : 1 + (num (u / 128)).length = ([UInt8.ofNat (u % 128 + 128)] ++ num (u / 128)).length := by simp; omega
      have e2 : [UInt8.ofNat (u % 128 + 128)] ++ num (u / 128) = num u := by rw [num_big (u := u) (by omega)]; rfl
      rw [e, e2]
      repeat (first | ((with_reducible refine Tr.step rfl ?_); ((refine xaQ (z := ?_)))) | (with_reducible first | apply Tr.next | apply Tr.nil | apply Tr.ret))
      refine pbQ (r := ownS 5 1 _ _ _ _) (k := fun M' hm hok => ?_)
      have hmz := hm1.trans hm
      (refine dnQ (hL := by exact ⟨[], rfl⟩) (k := ⟨rfl, ?_⟩))
      exact ⟨A2, c2, rfl, BSl.ofOwn hok rfl hc2⟩
end Go.Proofs.YtghjhdbmkilakaaGreatDoor

/-
  The codec: the reader; the contracts of take and of the reader's numeral.
  Conditions: none.
-/
namespace Go.Proofs.YtghjhdbmkilakaaGreatDoor
open Go Bf
attribute [local irreducible] Tr Exec Stab HasTy Go.Addr.add IntKind.wrap
/-- the panic of a reader -/
def failCh : List PanicEntry := [{ v := .iface 132 (.agg #[]), recovered := false }]
def Fails (ch : List PanicEntry) (_ : Mem) (A' : List Res) : Prop := ch = failCh ∧ A' = []
/-- a reader and what remains to be read -/
def Rdr (M : Mem) (p : Nat) (bs : List UInt8) (x : Res) : Prop := ∃ A c, x = box p 98 [.slice A bs.length c] ∧ BSl M (.slice A bs.length c) bs
theorem Rdr.mono {M M' : Mem} {p : Nat} {bs : List UInt8} {x : Res} (h : Rdr M p bs x) (hm : Mem.le M M') : Rdr M' p bs x := let ⟨A, c, e, h⟩ := h; ⟨A, c, e, h.mono hm⟩

set_option maxHeartbeats 1000000 in
theorem take_fn (M : Mem) (p : Nat) (bs : List UInt8) (x : Res) (h : Rdr M p bs x) (n : Nat) (hn : n < 2 ^ 64) :
    FnP Tryz.prog 97 [.pointer (some ⟨p, 0, none⟩), .int .u64 (n : Int)] M [x]
      (fun r M' A' => M = M' ∧ n ≤ bs.length ∧ (∃ A c, r = .slice A n c ∧ BSl M (.slice A n c) (bs.take n)) ∧ ∃ x', A' = [x'] ∧ Rdr M p (bs.drop n) x')
      (fun ch M' A' => Fails ch M' A' ∧ bs.length < n) := by
  obtain ⟨A, c, rfl, hb⟩ := h
  have hcap := hb.cap
  refine FnP.intro Tryz.func97 rfl rfl Tryz.ntmps97 rfl fun E F => ?_
  by_cases hl : bs.length < n
  · repeat (first | ((with_reducible refine Tr.step rfl ?_); (first | (refine xmQ (z := ?_)) | (refine xaQ (z := ?_)) | (refine xlQ (z := ?_)) | (refine xfQ (z := ?_)) | (refine xnQ (z := ?_)) | ((with_reducible refine Knd.nilCheck ?_); (refine Exec.stab rfl (Stab.nilCheck rfl) rfl ?_)) | ((with_reducible refine Knd.makeInterface ?_); (refine Exec.stab rfl (Stab.makeIface rfl (by kernel_rfl)) rfl ?_)) | ((with_reducible refine Knd.panic ?_); (refine Exec.panic rfl ?_)) | (refine xiQ (z := ?_)) | ((with_reducible refine Knd.convert ?_); ((refine Exec.stab rfl (Stab.convu64 rfl (tysOk.get rfl) (tysOk.get rfl) rfl rfl (by omega)) rfl ?_))) | ((with_reducible refine Knd.build ?_); ((refine Exec.stab rfl (Stab.build tysOk rfl rfl rfl rfl (by repeat (exact BuildP.nil))) rfl ?_))))) | (with_reducible first | apply Tr.next | apply Tr.seq | apply Tr.region | apply Tr.nil | apply Tr.then_panic) | (refine Tr.cond_t rfl (by first | (with_reducible assumption) | omega) ?_))
    refine Tr.doneP (A' := []) (Mem.le.refl _) (by repeat (first | exact DropL.refl | apply DropL.skip)) ⟨⟨rfl, rfl⟩, hl⟩
  · repeat (first | ((with_reducible refine Tr.step rfl ?_); (first | (refine xmQ (z := ?_)) | (refine xaQ (z := ?_)) | (refine xlQ (z := ?_)) | (refine xfQ (z := ?_)) | (refine xnQ (z := ?_)) | ((with_reducible refine Knd.nilCheck ?_); (refine Exec.stab rfl (Stab.nilCheck rfl) rfl ?_)) | (refine xiQ (z := ?_)) | ((with_reducible refine Knd.convert ?_); ((refine Exec.stab rfl (Stab.convu64 rfl (tysOk.get rfl) (tysOk.get rfl) rfl rfl (by omega)) rfl ?_))) | ((with_reducible refine Knd.slice ?_); ((refine Exec.stab rfl (Stab.slice_hm rfl rfl rfl (tysOk.get rfl) rfl (tysOk.get rfl) (by omega) (by omega) (by omega)) rfl ?_))))) | (with_reducible first | apply Tr.next | apply Tr.seq | apply Tr.region | apply Tr.nil | apply Tr.skip) | (refine Tr.cond_f rfl (by first | (with_reducible assumption) | omega) ?_))
    (((apply Tr.draw); (kernel_rfl)); (refine tkQ 0 (hB := by exact fun _ h => h) (s := by exact Stab.move rfl) (h := ?_)); (refine tkQ 1 (s := by exact Stab.move rfl) (h := ?_)); (refine tkQ 2 (s := by exact Stab.nilCheck rfl) (h := ?_)); (refine tkQ 3 (s := by exact sfQ) (h := ?_)); (refine tkQ 4 (s := by exact slQ) (h := ?_)); (refine tkQ 5 (s := by exact Stab.move rfl) (h := ?_)); (refine tkQ 6 (s := by exact Stab.move rfl) (h := ?_)); (refine tkQ 7 (s := by exact Stab.nilCheck rfl) (h := ?_)); (refine tkQ 8 (s := by exact sfQ) (h := ?_)); (refine tkQ 9 (s := by exact slQ) (h := ?_)); (refine tkQ 10 (s := by exact snQ) (h := ?_)); (refine tkQ 11 (s := by exact Stab.move rfl) (h := ?_)); (refine tkQ 12 (s := by exact Stab.nilCheck rfl) (h := ?_)); (refine tkQ 13 (s := by exact sfQ) (h := ?_)); (refine tkQ 14 (s := by exact slQ) (h := ?_)); (refine tkQ 15 (s := by exact snQ) (h := ?_)); (refine tkQ 16 (s := by exact Stab.slice_lhm rfl rfl rfl rfl (tysOk.get rfl) rfl (tysOk.get rfl) rfl (by omega) (by omega) (by omega) (by omega)) (h := ?_)); (refine tkQ 17 (s := by exact Stab.nilCheck rfl) (h := ?_)); (refine tkQ 18 (s := by exact sfQ) (h := ?_)); (refine TrA.effD 19 rfl (by kernel_rfl) (by kernel_rfl) (by exact .inl rfl) ?_); (((refine Knd.store ?_); ((refine xSQ (z := ?_))))); (refine ⟨_, fun _ h => h, ?_⟩); (refine TrA.done (by kernel_rfl) ?_))
    repeat (first | ((with_reducible refine Tr.step rfl ?_); (first | (refine xmQ (z := ?_)) | (refine xaQ (z := ?_)))) | (with_reducible first | apply Tr.next | apply Tr.seq | apply Tr.region | apply Tr.nil | apply Tr.ret))
    refine Tr.ofPost ?_
    refine Tr.doneA (A' := [box p 98 _]) (by first | exact .inl rfl | exact .inr rfl) rfl (by repeat (first | exact RVs.nil | (apply RVs.cons; (exact RV.tmp rfl)))) (Mem.le.refl _) ⟨fun _ h => h, fun h => h⟩ ⟨rfl, by omega, ⟨A, n, rfl, hb.pre (by omega) (Nat.le_refl _) (by omega)⟩, _, rfl, ?_⟩
    have hs := hb.sub (l := n) (k := bs.length) (m := bs.length) (by omega) (Nat.le_refl _) (Nat.le_refl _) (by omega)
    have e : (bs.drop n).take (bs.length - n) = bs.drop n := by rw [List.take_of_length_le (by simp)]
    rw [e] at hs
    have e2 : (bs.drop n).length = bs.length - n := by simp
    refine ⟨if bs.length = n then A else A.map (·.add (n * 1)), bs.length - n, ?_, ?_⟩
    · rw [e2]; rfl
    · rw [e2]; exact hs
/-- a numeral that is read, from its digit i on -/
def rdN : Nat → List UInt8 → Option (Nat × List UInt8)
  | _, [] => none
  | i, c :: r => if i = 9 ∧ 1 < c.toNat then none else if c.toNat < 128 then (if c.toNat = 0 ∧ 0 < i then none else some (c.toNat * 2 ^ (7 * i), r)) else (rdN (i + 1) r).map fun x => (c.toNat % 128 * 2 ^ (7 * i) + x.1, x.2)
theorem rdN_lt {i : Nat} {bs r : List UInt8} {v : Nat} (hi : i ≤ 9) (h : rdN i bs = some (v, r)) : v < 2 ^ 64 ∧ 2 ^ (7 * i) ∣ v := by
  induction bs generalizing i v with
  | nil => cases h
  | cons c bs ih =>
    have hc := c.toNat_lt
    unfold rdN at h
    split at h
    · cases h
    · rename_i h9
      split at h
      · split at h
        · cases h
        · simp only [Option.some.injEq, Prod.mk.injEq] at h
          obtain ⟨rfl, rfl⟩ := h
          refine ⟨?_, Nat.dvd_mul_left ..⟩
          by_cases e : i = 9
          · subst e
            have : c.toNat ≤ 1 := by omega
            have : c.toNat * 2 ^ (7 * 9) ≤ 1 * 2 ^ (7 * 9) := Nat.mul_le_mul_right _ this
            omega
          · have h1 : c.toNat * 2 ^ (7 * i) < 2 ^ 7 * 2 ^ (7 * i) := Nat.mul_lt_mul_of_pos_right (by omega) (Nat.two_pow_pos _)
            rw [← Nat.pow_add] at h1
            have : 2 ^ (7 + 7 * i) ≤ 2 ^ 63 := Nat.pow_le_pow_right (by decide) (by omega)
            omega
      · rename_i h128
        have hne : i ≠ 9 := fun e => h9 ⟨e, by omega⟩
        cases hr : rdN (i + 1) bs with
        | none => rw [hr] at h; cases h
        | some x =>
          rw [hr] at h
          obtain ⟨v', r'⟩ := x
          simp only [Option.map_some, Option.some.injEq, Prod.mk.injEq] at h
          obtain ⟨rfl, rfl⟩ := h
          obtain ⟨h1, k, rfl⟩ := ih (by omega) hr
          have hd : c.toNat % 128 < 128 := Nat.mod_lt _ (by omega)
          have hp : 2 ^ (7 * (i + 1)) = 2 ^ (7 * i) * 128 := by rw [show 7 * (i + 1) = 7 * i + 7 by omega, Nat.pow_add]
          rw [hp] at h1 ⊢
          refine ⟨?_, ⟨c.toNat % 128 + 128 * k, by rw [Nat.mul_add, Nat.mul_comm (c.toNat % 128), Nat.mul_assoc]⟩⟩
          have e64 : (2 : Nat) ^ 64 = 2 ^ (7 * i) * 2 ^ (64 - 7 * i) := by rw [← Nat.pow_add]; congr 1; omega
          have e57 : (2 : Nat) ^ (64 - 7 * i) = 128 * 2 ^ (57 - 7 * i) := by rw [show 64 - 7 * i = 7 + (57 - 7 * i) by omega, Nat.pow_add]
          rw [e64, e57] at h1 ⊢
          rw [Nat.mul_assoc] at h1
          have h2 := Nat.lt_of_mul_lt_mul_left h1
          have h3 := Nat.lt_of_mul_lt_mul_left h2
          have : c.toNat % 128 * 2 ^ (7 * i) + 2 ^ (7 * i) * 128 * k = 2 ^ (7 * i) * (c.toNat % 128 + 128 * k) := by rw [Nat.mul_add, Nat.mul_comm (c.toNat % 128), Nat.mul_assoc]
          rw [this]
          exact Nat.mul_lt_mul_of_pos_left (by omega) (Nat.two_pow_pos _)

set_option maxHeartbeats 2000000 in
theorem rnum_fn (M : Mem) (p : Nat) (bs : List UInt8) (x : Res) (h : Rdr M p bs x) :
    FnP Tryz.prog 106 [.pointer (some ⟨p, 0, none⟩)] M [x]
      (fun r M' A' => M = M' ∧ ∃ v rest x', rdN 0 bs = some (v, rest) ∧ r = .int .u64 (v : Int) ∧ A' = [x'] ∧ Rdr M p rest x')
      (fun ch M' A' => Fails ch M' A' ∧ rdN 0 bs = none) := by
  refine FnP.intro Tryz.func106 rfl rfl Tryz.ntmps106 rfl fun E F => ?_
  repeat (first | ((with_reducible refine Tr.step rfl ?_); ((refine xaQ (z := ?_)))) | (with_reducible first | apply Tr.next | apply Tr.seq | apply Tr.region | apply Tr.nil | apply Tr.block))
  refine Tr.loop (α := Nat × Nat × List UInt8 × Res) (fun y => ⟨38, [(3, .int .i64 y.1), (2, .int .u64 y.2.1), (0, .pointer (some ⟨p, 0, none⟩))], [], M, y.2.2.2 :: ([] ++ F)⟩)
    (fun y => y.1 ≤ 9 ∧ y.2.1 < 2 ^ (7 * y.1) ∧ Rdr M p y.2.2.1 y.2.2.2 ∧ rdN 0 bs = (rdN y.1 y.2.2.1).map fun z => (y.2.1 + z.1, z.2)) (fun y => 9 - y.1) (0, 0, bs, x) ⟨by simp, by simp, h, by cases h : rdN 0 bs <;> simp [h]⟩ hsQ (fun y hy => ?_)
  obtain ⟨i, u, cs, x'⟩ := y
  obtain ⟨h1, h2, h3, h4⟩ := hy
  simp only at h1 h2 h3 h4
  dsimp only
  repeat (first | ((with_reducible refine Tr.step rfl ?_); ((refine xmQ (z := ?_)))) | (with_reducible first | apply Tr.seq | apply Tr.region | apply Tr.block))
  ((refine Tr.step rfl ?_))
  refine Exec.callP rfl (take_fn M p cs x' h3 1 (by omega)) (List.Perm.refl _) rfl (fun v M' A' hm hR => ?_) (fun ch M' A' hm hR => ?_)
  rotate_left
  · obtain ⟨⟨rfl, rfl⟩, hlt⟩ := hR
    have hnil : cs = [] := List.eq_nil_of_length_eq_zero (by omega)
    subst hnil
    repeat (first | (with_reducible first | apply Tr.then_panic | apply Tr.in_panic))
    refine Tr.doneP (A' := []) hm (by repeat (first | exact DropL.refl | apply DropL.skip)) ⟨⟨rfl, rfl⟩, by rw [h4]; rfl⟩
  obtain ⟨rfl, hle, ⟨A1, c1, rfl, hb1⟩, x2, rfl, hx2⟩ := hR
  cases cs with
  | nil => simp at hle
  | cons c r =>
    have hb1' : BSl M (.slice A1 1 c1) [c] := by simpa using hb1
    obtain ⟨hA1, hat⟩ := hb1'.byte (j := 0) (c := c) rfl
    have hx2' : Rdr M p r x2 := by simpa using hx2
    have hc8 := c.toNat_lt
    repeat (first | ((with_reducible refine Tr.step rfl ?_); (first | (refine xmQ (z := ?_)) | (refine xaQ (z := ?_)) | (refine xMQ (z := ?_)) | (refine xiQ (z := ?_)) | (refine xxQ (z := ?_)))) | (with_reducible first | apply Tr.next | apply Tr.seq | apply Tr.region | apply Tr.nil))
    by_cases h9 : i = 9 ∧ 1 < c.toNat
    · obtain ⟨h9a, h9b⟩ := id h9
      repeat (first | ((with_reducible refine Tr.step rfl ?_); (first | ((with_reducible refine Knd.makeInterface ?_); (refine Exec.stab rfl (Stab.makeIface rfl (by kernel_rfl)) rfl ?_)) | ((with_reducible refine Knd.panic ?_); (refine Exec.panic rfl ?_)) | ((with_reducible refine Knd.pick ?_); ((refine Exec.stab rfl (Stab.pick_td rfl (by first | (with_reducible assumption) | omega) rfl) rfl ?_))) | ((with_reducible refine Knd.build ?_); ((refine Exec.stab rfl (Stab.build tysOk rfl rfl rfl rfl (by repeat (exact BuildP.nil))) rfl ?_))))) | (with_reducible first | apply Tr.next | apply Tr.region | apply Tr.nil) | ((refine Tr.guard_y rfl rfl rfl (by first | (with_reducible assumption) | omega) ?_); (first | (refine xmQ (z := ?_)) | (refine xiQ (z := ?_)))) | (with_reducible first | apply Tr.then_panic | apply Tr.in_panic) | (refine Tr.cond_t rfl (by first | (with_reducible assumption) | omega) ?_))
      refine Tr.doneP (A' := []) (Mem.le.refl _) (by repeat (first | exact DropL.refl | apply DropL.skip)) ⟨⟨rfl, rfl⟩, by rw [h4]; unfold rdN; rw [if_pos h9]; rfl⟩
    refine Tr.cutL (α := Bool) (fun q => ⟨38, [(16, .bool q), (4, .int .u8 (c.toNat : Int)), (3, .int .i64 i), (2, .int .u64 u), (0, .pointer (some ⟨p, 0, none⟩))], [], M, [x2] ++ ([] ++ F)⟩) (fun q => q = false) ?_ (fun q hq => ?_)
    · by_cases h9a : i = 9
      · repeat (first | ((with_reducible refine Tr.step rfl ?_); (((with_reducible refine Knd.pick ?_); ((refine Exec.stab rfl (Stab.pick_td rfl (by first | (with_reducible assumption) | omega) rfl) rfl ?_))))) | (with_reducible refine Tr.nil ?_) | ((refine Tr.guard_y rfl rfl rfl (by first | (with_reducible assumption) | omega) ?_); (first | (refine xmQ (z := ?_)) | (refine xiQ (z := ?_)))))
        refine Tr.land _ ?_ hsQ
        simp; omega
      · repeat (first | ((with_reducible refine Tr.step rfl ?_); (((with_reducible refine Knd.pick ?_); ((refine Exec.stab rfl (Stab.pick_fd rfl (by first | (with_reducible assumption) | omega) rfl) rfl ?_))))) | (with_reducible refine Tr.nil ?_) | (refine Tr.guard_n rfl rfl rfl (by first | (with_reducible assumption) | omega) rfl rfl ?_))
        refine Tr.land _ ?_ hsQ
        rfl
    subst hq
    have hw : c.toNat % 128 * 2 ^ (7 * i) < 2 ^ 64 := by
      by_cases h9a : i = 9
      · subst h9a
        have h1 : c.toNat ≤ 1 := by omega
        have : c.toNat % 128 ≤ 1 := by omega
        have : c.toNat % 128 * 2 ^ (7 * 9) ≤ 1 * 2 ^ (7 * 9) := Nat.mul_le_mul_right _ this
        omega
      · have h1 : c.toNat % 128 * 2 ^ (7 * i) < 2 ^ 7 * 2 ^ (7 * i) := Nat.mul_lt_mul_of_pos_right (by omega) (Nat.two_pow_pos _)
        rw [← Nat.pow_add] at h1
        have : 2 ^ (7 + 7 * i) ≤ 2 ^ 63 := Nat.pow_le_pow_right (by decide) (by omega)
        omega
    have hsh : IntKind.u64.wrap ((c.toNat : Int) % 128 * 2 ^ min (7 * (i : Int)).toNat IntKind.u64.bits) = ((c.toNat % 128 * 2 ^ (7 * i) : Nat) : Int) := by
      have e1 : (7 * (i : Int)).toNat = 7 * i := by omega
      have e2 : min (7 * i) IntKind.u64.bits = 7 * i := by
        have : IntKind.u64.bits = 64 := rfl
        omega
      rw [e1, e2]
      have e3 : (c.toNat : Int) % 128 * 2 ^ (7 * i) = ((c.toNat % 128 * 2 ^ (7 * i) : Nat) : Int) := by
        rw [Int.natCast_mul, Int.natCast_pow, Int.natCast_emod]; rfl
      rw [e3]
      exact IntWalk.u64_in _ ⟨by omega, by omega⟩
    have hsum : u + c.toNat % 128 * 2 ^ (7 * i) < 2 ^ 64 := by
      obtain ⟨m, hm⟩ : 2 ^ (7 * i) ∣ 2 ^ 64 := Nat.pow_dvd_pow _ (by omega)
      rw [hm] at hw ⊢
      rw [Nat.mul_comm] at hw
      have h5 := Nat.lt_of_mul_lt_mul_left hw
      have : u + c.toNat % 128 * 2 ^ (7 * i) < 2 ^ (7 * i) * (c.toNat % 128 + 1) := by rw [Nat.mul_add, Nat.mul_one, Nat.mul_comm (c.toNat % 128)]; omega
      exact Nat.lt_of_lt_of_le this (Nat.mul_le_mul_left _ (by omega))
    have hor := bits_or_add (a := u) (b := c.toNat % 128) (j := 7 * i) (by omega) h2 hsum
    repeat (first | ((with_reducible refine Tr.step rfl ?_); (first | (refine xmQ (z := ?_)) | ((with_reducible refine Knd.binOp ?_); (first | (refine Exec.stab rfl (Stab.and8 7 rfl rfl rfl rfl (by omega) (p := 128) rfl) rfl ?_) | (refine Exec.stab rfl (Stab.muli rfl rfl (by omega)) rfl ?_))) | ((with_reducible refine Knd.convert ?_); ((refine Exec.stab rfl (Stab.convu64 rfl (tysOk.get rfl) (tysOk.get rfl) rfl rfl (by omega)) rfl ?_))))) | (with_reducible first | apply Tr.next | apply Tr.seq | apply Tr.region | apply Tr.skip) | (refine Tr.cond_bf rfl (by (with_reducible rfl)) ?_))
    refine Tr.step rfl ?_
    refine Exec.stab rfl (Stab.shl rfl rfl (by omega)) rfl ?_
    rw [hsh]
    by_cases h128 : c.toNat < 128
    · by_cases hz : c.toNat = 0 ∧ 0 < i
      · obtain ⟨hza, hzb⟩ := id hz
        repeat (first | ((with_reducible refine Tr.step rfl ?_); (first | (refine xmQ (z := ?_)) | (refine xaQ (z := ?_)) | ((with_reducible refine Knd.makeInterface ?_); (refine Exec.stab rfl (Stab.makeIface rfl (by kernel_rfl)) rfl ?_)) | ((with_reducible refine Knd.panic ?_); (refine Exec.panic rfl ?_)) | (refine xiQ (z := ?_)) | ((with_reducible refine Knd.pick ?_); ((refine Exec.stab rfl (Stab.pick_td rfl (by first | (with_reducible assumption) | omega) rfl) rfl ?_))) | ((with_reducible refine Knd.build ?_); ((refine Exec.stab rfl (Stab.build tysOk rfl rfl rfl rfl (by repeat (exact BuildP.nil))) rfl ?_))))) | (with_reducible first | apply Tr.next | apply Tr.seq | apply Tr.region | apply Tr.nil) | ((refine Tr.guard_y rfl rfl rfl (by first | (with_reducible assumption) | omega) ?_); (first | (refine xmQ (z := ?_)) | (refine xiQ (z := ?_)))) | (with_reducible first | apply Tr.then_panic | apply Tr.in_panic) | (refine Tr.cond_t rfl (by first | (with_reducible assumption) | omega) ?_))
        refine Tr.doneP (A' := []) (Mem.le.refl _) (by repeat (first | exact DropL.refl | apply DropL.skip)) ⟨⟨rfl, rfl⟩, by rw [h4]; unfold rdN; rw [if_neg h9, if_pos h128, if_pos hz]; rfl⟩
      · repeat (first | ((with_reducible refine Tr.step rfl ?_); (first | (refine xmQ (z := ?_)) | (refine xaQ (z := ?_)) | (refine xiQ (z := ?_)))) | (with_reducible first | apply Tr.next | apply Tr.seq | apply Tr.region | apply Tr.nil) | (refine Tr.cond_t rfl (by first | (with_reducible assumption) | omega) ?_))
        refine Tr.cutL (α := Bool) (fun q => ⟨38, [(34, .bool q), (2, .int .u64 ((u + c.toNat % 128 * 2 ^ (7 * i) : Nat) : Int)), (0, .pointer (some ⟨p, 0, none⟩))], [], M, [x2] ++ ([] ++ F)⟩) (fun q => q = false) ?_ (fun q hq => ?_)
        · rw [hor]
          by_cases hza : c.toNat = 0
          · repeat (first | ((with_reducible refine Tr.step rfl ?_); (((with_reducible refine Knd.pick ?_); ((refine Exec.stab rfl (Stab.pick_td rfl (by first | (with_reducible assumption) | omega) rfl) rfl ?_))))) | (with_reducible refine Tr.nil ?_) | ((refine Tr.guard_y rfl rfl rfl (by first | (with_reducible assumption) | omega) ?_); (first | (refine xmQ (z := ?_)) | (refine xiQ (z := ?_)))))
            refine Tr.land _ ?_ hsQ
            simp; omega
          · repeat (first | ((with_reducible refine Tr.step rfl ?_); (((with_reducible refine Knd.pick ?_); ((refine Exec.stab rfl (Stab.pick_fd rfl (by first | (with_reducible assumption) | omega) rfl) rfl ?_))))) | (with_reducible refine Tr.nil ?_) | (refine Tr.guard_n rfl rfl rfl (by first | (with_reducible assumption) | omega) rfl rfl ?_))
            refine Tr.land _ ?_ hsQ
            rfl
        subst hq
        repeat (first | ((with_reducible refine Tr.step rfl ?_); (first | (refine xmQ (z := ?_)) | (refine xaQ (z := ?_)))) | (with_reducible first | apply Tr.next | apply Tr.seq | apply Tr.region | apply Tr.nil | apply Tr.skip | apply Tr.ret | apply Tr.then_ret | apply Tr.in_ret) | (refine Tr.cond_bf rfl (by (with_reducible rfl)) ?_))
        refine Tr.ofPost ?_
        refine Tr.doneA (A' := [x2]) (by first | exact .inl rfl | exact .inr rfl) rfl (by repeat (first | exact RVs.nil | (apply RVs.cons; (exact RV.tmp rfl)))) (Mem.le.refl _) ⟨fun _ h => h, fun h => h⟩ ⟨rfl, u + c.toNat % 128 * 2 ^ (7 * i), r, x2, ?_, rfl, rfl, hx2'⟩
        rw [h4]
        unfold rdN
        rw [if_neg h9, if_pos h128, if_neg hz, Nat.mod_eq_of_lt h128]
        rfl
    · have hne : i ≠ 9 := fun e => h9 ⟨e, by omega⟩
      repeat (first | ((with_reducible refine Tr.step rfl ?_); (first | (refine xmQ (z := ?_)) | (refine xaQ (z := ?_)) | ((with_reducible refine Knd.binOp ?_); (first | (refine xdQ (z := ?_)) | (refine xiQ (z := ?_)))))) | (with_reducible first | apply Tr.next | apply Tr.seq | apply Tr.region | apply Tr.nil | apply Tr.skip | apply Tr.in_normal) | (refine Tr.cond_f rfl (by first | (with_reducible assumption) | omega) ?_))
      rw [hor]
      refine Tr.again (i + 1, u + c.toNat % 128 * 2 ^ (7 * i), r, x2) ⟨by simp only; omega, ?_, hx2', ?_⟩ (by simp only; omega) hsQ
      · simp only
        have hd : c.toNat % 128 < 128 := Nat.mod_lt _ (by omega)
        have : u + c.toNat % 128 * 2 ^ (7 * i) < 2 ^ (7 * i) * (c.toNat % 128 + 1) := by rw [Nat.mul_add, Nat.mul_one, Nat.mul_comm (c.toNat % 128)]; omega
        refine Nat.lt_of_lt_of_le this ?_
        rw [show 7 * (i + 1) = 7 * i + 7 by omega, Nat.pow_add]
        exact Nat.mul_le_mul_left _ (by omega)
      · simp only
        rw [h4]
        conv => lhs; unfold rdN
        rw [if_neg h9, if_neg h128]
        cases rdN (i + 1) r <;> simp [Nat.add_assoc]
end Go.Proofs.YtghjhdbmkilakaaGreatDoor

/-
  The codec: what is read; the contracts of readInt, readText, readList and value.
  Conditions: none.
-/
namespace Go.Proofs.YtghjhdbmkilakaaGreatDoor
open Go Bf
attribute [local irreducible] Tr Exec Stab HasTy Go.Addr.add IntKind.wrap
def unzz (u : Nat) : Int := if u % 2 = 0 then (u / 2 : Nat) else - ((u / 2 : Nat) : Int) - 1
/-- as many values as are said -/
def rdL (f : List UInt8 → Option (Val × List UInt8)) : Nat → List UInt8 → Option (List Val × List UInt8)
  | 0, bs => some ([], bs)
  | n + 1, bs => match f bs with
    | none => none
    | some (v, r) => match rdL f n r with
      | none => none
      | some (l, r') => some (v :: l, r')
/-- one value; 'sub': how the elements of a list are read, if there may be lists -/
def rdStep (sub : Option (List UInt8 → Option (Val × List UInt8))) : List UInt8 → Option (Val × List UInt8)
  | [] => none
  | k :: bs =>
    if k.toNat = 1 then (rdN 0 bs).map fun x => (.mk 1 (unzz x.1) [] [], x.2)
    else if k.toNat = 2 then (match rdN 0 bs with
      | none => none
      | some (n, r) => if n ≤ r.length then some (.mk 2 0 (r.take n) [], r.drop n) else none)
    else if k.toNat = 3 then (match sub with
      | none => none
      | some f => match rdN 0 bs with
        | none => none
        | some (n, r) => (rdL f n r).map fun x => (.mk 3 0 [] x.1, x.2))
    else none
theorem rdStep_cons (sub : Option (List UInt8 → Option (Val × List UInt8))) (k : UInt8) (bs : List UInt8) : rdStep sub (k :: bs) =
    if k.toNat = 1 then (rdN 0 bs).map fun x => (.mk 1 (unzz x.1) [] [], x.2)
    else if k.toNat = 2 then (match rdN 0 bs with
      | none => none
      | some (n, r) => if n ≤ r.length then some (.mk 2 0 (r.take n) [], r.drop n) else none)
    else if k.toNat = 3 then (match sub with
      | none => none
      | some f => match rdN 0 bs with
        | none => none
        | some (n, r) => (rdL f n r).map fun x => (.mk 3 0 [] x.1, x.2))
    else none := rfl
def rdV : Nat → List UInt8 → Option (Val × List UInt8)
  | 0 => rdStep none
  | room + 1 => rdStep (some (rdV room))
theorem rdN_len {i : Nat} {bs r : List UInt8} {v : Nat} (h : rdN i bs = some (v, r)) : r.length < bs.length := by
  induction bs generalizing i v with
  | nil => cases h
  | cons c bs ih =>
    unfold rdN at h
    split at h
    · cases h
    · split at h
      · split at h
        · cases h
        · simp only [Option.some.injEq, Prod.mk.injEq] at h
          obtain ⟨-, rfl⟩ := h
          simp
      · cases hr : rdN (i + 1) bs with
        | none => rw [hr] at h; cases h
        | some x =>
          rw [hr] at h
          obtain ⟨v', r'⟩ := x
          simp only [Option.map_some, Option.some.injEq, Prod.mk.injEq] at h
          obtain ⟨-, rfl⟩ := h
          have := ih hr
          simp; omega
theorem rdL_len {f : List UInt8 → Option (Val × List UInt8)} (hf : ∀ bs v r, f bs = some (v, r) → r.length < bs.length) : ∀ (n : Nat) (bs r : List UInt8) (l : List Val), rdL f n bs = some (l, r) → r.length ≤ bs.length
  | 0, bs, r, l, h => by
    simp only [rdL, Option.some.injEq, Prod.mk.injEq] at h
    obtain ⟨-, rfl⟩ := h
    exact Nat.le_refl _
  | n + 1, bs, r, l, h => by
    unfold rdL at h
    cases h1 : f bs with
    | none => rw [h1] at h; cases h
    | some x =>
      rw [h1] at h
      obtain ⟨v, r1⟩ := x
      dsimp only at h
      cases h2 : rdL f n r1 with
      | none => rw [h2] at h; cases h
      | some y =>
        rw [h2] at h
        obtain ⟨l1, r2⟩ := y
        simp only [Option.some.injEq, Prod.mk.injEq] at h
        obtain ⟨-, rfl⟩ := h
        have := hf _ _ _ h1
        have := rdL_len hf n _ _ _ h2
        omega
theorem rdStep_len {sub : Option (List UInt8 → Option (Val × List UInt8))} (hf : ∀ f, sub = some f → ∀ bs v r, f bs = some (v, r) → r.length < bs.length) {bs r : List UInt8} {v : Val} (h : rdStep sub bs = some (v, r)) : r.length < bs.length := by
  cases bs with
  | nil => cases h
  | cons k bs =>
    rw [rdStep_cons] at h
    split at h
    · cases hn : rdN 0 bs with
      | none => rw [hn] at h; cases h
      | some x =>
        rw [hn] at h
        obtain ⟨u, r1⟩ := x
        simp only [Option.map_some, Option.some.injEq, Prod.mk.injEq] at h
        obtain ⟨-, rfl⟩ := h
        have := rdN_len hn
        simp; omega
    · split at h
      · cases hn : rdN 0 bs with
        | none => rw [hn] at h; cases h
        | some x =>
          rw [hn] at h
          obtain ⟨n, r1⟩ := x
          dsimp only at h
          split at h
          · simp only [Option.some.injEq, Prod.mk.injEq] at h
            obtain ⟨-, rfl⟩ := h
            have := rdN_len hn
            simp; omega
          · cases h
      · split at h
        · cases sub with
          | none => cases h
          | some f =>
            cases hn : rdN 0 bs with
            | none => rw [hn] at h; cases h
            | some x =>
              rw [hn] at h
              obtain ⟨n, r1⟩ := x
              dsimp only at h
              cases hl : rdL f n r1 with
              | none => rw [hl] at h; cases h
              | some y =>
                rw [hl] at h
                obtain ⟨l1, r2⟩ := y
                simp only [Option.map_some, Option.some.injEq, Prod.mk.injEq] at h
                obtain ⟨-, rfl⟩ := h
                have := rdN_len hn
                have := rdL_len (hf f rfl) _ _ _ _ hl
                simp; omega
        · cases h
theorem rdV_len : ∀ (room : Nat) (bs r : List UInt8) (v : Val), rdV room bs = some (v, r) → r.length < bs.length
  | 0, _, _, _, h => rdStep_len (fun _ h => by cases h) h
  | room + 1, _, _, _, h => rdStep_len (fun f hf => by cases hf; exact fun bs v r => rdV_len room bs r v) h
theorem unzz_range {u : Nat} (h : u < 2 ^ 64) : -9223372036854775808 ≤ unzz u ∧ unzz u ≤ 9223372036854775807 := by
  unfold unzz; split <;> omega
theorem xor_unzz {u : Nat} (h : u < 2 ^ 64) : Go.bits .xor .i64 ((u : Int) / 2) (-((u : Int) % 2)) = unzz u := by
  unfold unzz
  by_cases h2 : u % 2 = 0
  · rw [if_pos h2, show -((u : Int) % 2) = 0 by omega, bits_xor0 (.inr rfl) (by omega) (fun h => by cases h)]
    omega
  · rw [if_neg h2, show -((u : Int) % 2) = -1 by omega, bits_xor_m1 (by omega)]
    omega

set_option maxHeartbeats 1000000 in
theorem readInt_fn (M : Mem) (p : Nat) (bs : List UInt8) (x : Res) (room : Int) (h : Rdr M p bs x) :
    FnP Tryz.prog 80 [.pointer (some ⟨p, 0, none⟩), .int .i64 room] M [x]
      (fun r M' A' => M = M' ∧ ∃ u rest x', rdN 0 bs = some (u, rest) ∧ RV M r (.mk 1 (unzz u) [] []) ∧ A' = [x'] ∧ Rdr M p rest x')
      (fun ch M' A' => Fails ch M' A' ∧ rdN 0 bs = none) := by
  refine FnP.intro Tryz.func80 rfl rfl Tryz.ntmps80 rfl fun E F => ?_
  repeat (first | ((with_reducible refine Tr.step rfl ?_); (first | (refine xmQ (z := ?_)) | ((with_reducible refine Knd.alloc ?_); ((refine Exec.alloc (tysOk.get rfl) rfl rfl (fun b => ?_)))))) | (with_reducible first | apply Tr.next | apply Tr.seq | apply Tr.region | apply Tr.nil))
  ((refine Tr.step rfl ?_))
  refine Exec.callP rfl (rnum_fn M p bs x h) (List.Perm.swap _ _ _) rfl (fun v M' A' hm hR => ?_) (fun ch M' A' hm hR => ?_)
  rotate_left
  · obtain ⟨⟨rfl, rfl⟩, hn⟩ := hR
    repeat ((with_reducible refine Tr.then_panic ?_))
    refine Tr.doneP (A' := []) hm (by repeat (first | exact DropL.refl | apply DropL.skip)) ⟨⟨rfl, rfl⟩, hn⟩
  obtain ⟨rfl, u, rest, x2, hn, rfl, rfl, hx2⟩ := hR
  have hu := (rdN_lt (by omega) hn).1
  repeat (first | ((with_reducible refine Tr.step rfl ?_); (first | (refine xmQ (z := ?_)) | (refine xaQ (z := ?_)) | ((with_reducible refine Knd.binOp ?_); (first | (refine Exec.stab rfl (Stab.and64 1 rfl rfl rfl rfl (by omega) (p := 2) rfl) rfl ?_) | (refine Exec.stab rfl (Stab.shrc 1 (p := 2) rfl rfl rfl rfl) rfl ?_) | (refine xiQ (z := ?_)))) | ((with_reducible refine Knd.unOp ?_); ((refine Exec.stab rfl (Stab.neg rfl (by omega)) rfl ?_))) | (refine xWQ (z := ?_)) | ((with_reducible refine Knd.convert ?_); ((refine Exec.stab rfl (Stab.convi rfl (tysOk.get rfl) (tysOk.get rfl) rfl rfl (by omega)) rfl ?_))) | ((with_reducible refine Knd.build ?_); ((refine Exec.stab rfl (Stab.build tysOk rfl rfl rfl rfl (by repeat (first | exact BuildP.nil | ((apply BuildP.one); (rfl); (rfl); (first | rfl | assumption); (repeat (first | exact SetL.z | apply SetL.s)))))) rfl ?_))))) | (with_reducible first | apply Tr.next | apply Tr.seq | apply Tr.region | apply Tr.nil | apply Tr.ret))
  rw [xor_unzz hu]
  repeat (fail)
  refine Tr.ofPost ?_
  refine Tr.doneA (A' := [x2]) (by first | exact .inl rfl | exact .inr rfl) rfl (by repeat (first | exact RVs.nil | (apply RVs.cons; (exact RV.cellW (by rfl) (tysOk.get (by rfl)) (by rfl) (by repeat (first | exact Has.here | apply Has.there)) (by rfl))))) (Mem.le.refl _) ⟨fun r hr => by simp at hr ⊢; rcases hr with rfl | hr <;> simp_all, fun h => by simp only [List.flatMap_append, List.flatMap_cons, List.flatMap_nil, List.append_nil, List.nil_append, List.nodup_append, List.cons_append] at h ⊢; exact ⟨h.1, h.2.1.2.1, fun a ha b hb => h.2.2 a ha b (by simp [hb])⟩⟩ ⟨rfl, u, rest, x2, hn, ⟨_, rfl, RVal.close (A := none) (c := 0) (l := []) (s := []) (by omega) (unzz_range hu) (by simp) (SlOf.nil _ _ _)⟩, rfl, hx2⟩
set_option maxHeartbeats 1000000 in
theorem readText_fn (M : Mem) (p : Nat) (bs : List UInt8) (x : Res) (room : Int) (h : Rdr M p bs x) :
    FnP Tryz.prog 84 [.pointer (some ⟨p, 0, none⟩), .int .i64 room] M [x]
      (fun r M' A' => M = M' ∧ ∃ n rest x', rdN 0 bs = some (n, rest) ∧ n ≤ rest.length ∧ RV M r (.mk 2 0 (rest.take n) []) ∧ A' = [x'] ∧ Rdr M p (rest.drop n) x')
      (fun ch M' A' => Fails ch M' A' ∧ ∀ n rest, rdN 0 bs = some (n, rest) → rest.length < n) := by
  refine FnP.intro Tryz.func84 rfl rfl Tryz.ntmps84 rfl fun E F => ?_
  repeat (first | ((with_reducible refine Tr.step rfl ?_); (first | (refine xmQ (z := ?_)) | ((with_reducible refine Knd.alloc ?_); ((refine Exec.alloc (tysOk.get rfl) rfl rfl (fun b => ?_)))))) | (with_reducible first | apply Tr.next | apply Tr.seq | apply Tr.region | apply Tr.nil))
  ((refine Tr.step rfl ?_))
  refine Exec.callP rfl (rnum_fn M p bs x h) (List.Perm.swap _ _ _) rfl (fun v M' A' hm hR => ?_) (fun ch M' A' hm hR => ?_)
  rotate_left
  · obtain ⟨⟨rfl, rfl⟩, hn⟩ := hR
    repeat ((with_reducible refine Tr.then_panic ?_))
    refine Tr.doneP (A' := []) hm (by repeat (first | exact DropL.refl | apply DropL.skip)) ⟨⟨rfl, rfl⟩, fun n rest h => by rw [hn] at h; cases h⟩
  obtain ⟨rfl, u, rest, x2, hn, rfl, rfl, hx2⟩ := hR
  have hu := (rdN_lt (by omega) hn).1
  ((refine Tr.step rfl ?_))
  refine Exec.callP rfl (take_fn M p rest x2 hx2 u hu) (List.Perm.refl _) rfl (fun v M' A' hm hR => ?_) (fun ch M' A' hm hR => ?_)
  rotate_left
  · obtain ⟨⟨rfl, rfl⟩, hlt⟩ := hR
    repeat ((with_reducible refine Tr.then_panic ?_))
    refine Tr.doneP (A' := []) hm (by repeat (first | exact DropL.refl | apply DropL.skip)) ⟨⟨rfl, rfl⟩, fun n rest' h => by rw [hn] at h; cases h; exact hlt⟩
  obtain ⟨rfl, hle, ⟨A1, c1, rfl, hb1⟩, x3, rfl, hx3⟩ := hR
  have hsl : (rest.take u).length ≤ 9223372036854775807 := by
    have := hb1.cap
    omega
  repeat (first | ((with_reducible refine Tr.step rfl ?_); (first | (refine xWQ (z := ?_)) | ((with_reducible refine Knd.convert ?_); ((refine Exec.stab rfl (Stab.bstrB rfl (tysOk.get rfl) (tysOk.get rfl) rfl rfl (tysOk.get rfl) rfl (by assumption)) rfl ?_))) | ((with_reducible refine Knd.build ?_); ((refine Exec.stab rfl (Stab.build tysOk rfl rfl rfl rfl (by repeat (first | exact BuildP.nil | ((apply BuildP.one); (rfl); (rfl); (first | rfl | assumption); (repeat (first | exact SetL.z | apply SetL.s)))))) rfl ?_))))) | (with_reducible first | apply Tr.next | apply Tr.nil | apply Tr.ret))
  refine Tr.ofPost ?_
  refine Tr.doneA (A' := [x3]) (by first | exact .inl rfl | exact .inr rfl) rfl (by repeat (first | exact RVs.nil | (apply RVs.cons; (exact RV.cellW (by rfl) (tysOk.get (by rfl)) (by rfl) (by repeat (first | exact Has.here | apply Has.there)) (by rfl))))) (Mem.le.refl _) ⟨fun r hr => by simp at hr ⊢; rcases hr with rfl | hr <;> simp_all, fun h => by simp only [List.flatMap_append, List.flatMap_cons, List.flatMap_nil, List.append_nil, List.nil_append, List.nodup_append, List.cons_append] at h ⊢; exact ⟨h.1, h.2.1.2.1, fun a ha b hb => h.2.2 a ha b (by simp [hb])⟩⟩ ⟨rfl, u, rest, x3, hn, hle, ⟨_, rfl, RVal.close (A := none) (c := 0) (l := []) (by omega) (by omega) hsl (SlOf.nil _ _ _)⟩, rfl, hx3⟩

/-- what 'value' does, for lists nested so deep at most -/
def ValueOk (room : Nat) : Prop := ∀ (M : Mem) (p : Nat) (bs : List UInt8) (x : Res), Rdr M p bs x → bs.length ≤ 1000000000 →
    FnP Tryz.prog 56 [.pointer (some ⟨p, 0, none⟩), .int .i64 (room : Int)] M [x]
      (fun r M' A' => ∃ v rest x', rdV room bs = some (v, rest) ∧ RV M' r v ∧ A' = [x'] ∧ Rdr M' p rest x')
      (fun ch M' A' => Fails ch M' A' ∧ rdV room bs = none)
theorem rdL_snoc {f : List UInt8 → Option (Val × List UInt8)} {bs rest r : List UInt8} {l : List Val} {v : Val} {n i : Nat} (hi : i < n) (h : rdL f n bs = (rdL f (n - i) rest).map fun z => (l ++ z.1, z.2)) (hv : f rest = some (v, r)) :
    rdL f n bs = (rdL f (n - (i + 1)) r).map fun z => ((l ++ [v]) ++ z.1, z.2) := by
  rw [h, show n - i = (n - (i + 1)) + 1 by omega]
  conv => lhs; unfold rdL
  rw [hv]
  dsimp only
  cases rdL f (n - (i + 1)) r <;> simp
theorem rdL_fail {f : List UInt8 → Option (Val × List UInt8)} {bs rest : List UInt8} {l : List Val} {n i : Nat} (hi : i < n) (h : rdL f n bs = (rdL f (n - i) rest).map fun z => (l ++ z.1, z.2)) (hv : f rest = none) : rdL f n bs = none := by
  rw [h, show n - i = (n - (i + 1)) + 1 by omega]
  conv => lhs; unfold rdL
  rw [hv]
  rfl
set_option maxHeartbeats 2000000 in
theorem readList_fn (room : Nat) (hroom : room ≤ 16) (ih : ∀ k, k < room → ValueOk k) (M : Mem) (p : Nat) (bs : List UInt8) (x : Res) (h : Rdr M p bs x) (hlen : bs.length ≤ 1000000000) :
    FnP Tryz.prog 88 [.pointer (some ⟨p, 0, none⟩), .int .i64 (room : Int)] M [x]
      (fun r M' A' => ∃ k n r1 l rest x', room = k + 1 ∧ rdN 0 bs = some (n, r1) ∧ rdL (rdV k) n r1 = some (l, rest) ∧ RV M' r (.mk 3 0 [] l) ∧ A' = [x'] ∧ Rdr M' p rest x')
      (fun ch M' A' => Fails ch M' A' ∧ ∀ k n r1, room = k + 1 → rdN 0 bs = some (n, r1) → rdL (rdV k) n r1 = none) := by
  refine FnP.intro Tryz.func88 rfl rfl Tryz.ntmps88 rfl fun E F => ?_
  cases room with
  | zero =>
    repeat (first | ((with_reducible refine Tr.step rfl ?_); (first | (refine xmQ (z := ?_)) | ((with_reducible refine Knd.makeInterface ?_); (refine Exec.stab rfl (Stab.makeIface rfl (by kernel_rfl)) rfl ?_)) | ((with_reducible refine Knd.panic ?_); (refine Exec.panic rfl ?_)) | (refine xiQ (z := ?_)) | ((with_reducible refine Knd.alloc ?_); ((refine Exec.alloc (tysOk.get rfl) rfl rfl (fun b => ?_)))) | ((with_reducible refine Knd.build ?_); ((refine Exec.stab rfl (Stab.build tysOk rfl rfl rfl rfl (by repeat (exact BuildP.nil))) rfl ?_))))) | (with_reducible first | apply Tr.next | apply Tr.seq | apply Tr.region | apply Tr.nil | apply Tr.then_panic) | (refine Tr.cond_t rfl (by first | (with_reducible assumption) | omega) ?_))
    refine Tr.doneP (A' := []) (Mem.le.refl _) (by repeat (first | exact DropL.refl | apply DropL.skip)) ⟨⟨rfl, rfl⟩, fun k n r1 hk => by cases hk⟩
  | succ k =>
    have ihk := ih k (by omega)
    repeat (first | ((with_reducible refine Tr.step rfl ?_); (first | (refine xmQ (z := ?_)) | (refine xiQ (z := ?_)) | (refine xWQ (z := ?_)) | ((with_reducible refine Knd.alloc ?_); ((refine Exec.alloc (tysOk.get rfl) rfl rfl (fun b => ?_)))) | ((with_reducible refine Knd.build ?_); ((refine Exec.stab rfl (Stab.build tysOk rfl rfl rfl rfl (by repeat (first | exact BuildP.nil | ((apply BuildP.one); (rfl); (rfl); (first | rfl | assumption); (repeat (first | exact SetL.z | apply SetL.s)))))) rfl ?_))))) | (with_reducible first | apply Tr.next | apply Tr.seq | apply Tr.region | apply Tr.nil | apply Tr.skip) | (refine Tr.cond_f rfl (by first | (with_reducible assumption) | omega) ?_))
    generalize hb5 : b = b5
    rename_i b4
    ((refine Tr.step rfl ?_))
    refine Exec.callP rfl (rnum_fn M p bs x h) (show ([x] ++ (box _ 53 _ :: box _ 53 _ :: ([] ++ F))).Perm _ from ((List.Perm.swap _ _ _).trans ((List.Perm.swap _ _ _).cons _))) rfl (fun v M' A' hm hR => ?_) (fun ch M' A' hm hR => ?_)
    rotate_left
    · obtain ⟨⟨rfl, rfl⟩, hn⟩ := hR
      repeat ((with_reducible refine Tr.then_panic ?_))
      refine Tr.doneP (A' := []) hm (by repeat (first | exact DropL.refl | apply DropL.skip)) ⟨⟨rfl, rfl⟩, fun k n rest _ h => by rw [hn] at h; cases h⟩
    obtain ⟨rfl, n, r1, x2, hn, rfl, rfl, hx2⟩ := hR
    have hu := (rdN_lt (by omega) hn).1
    have hr1 := rdN_len hn
    repeat (first | ((with_reducible refine Tr.step rfl ?_); ((refine xmQ (z := ?_)))) | (with_reducible first | apply Tr.next | apply Tr.nil | apply Tr.block))
    refine Tr.own_nil 53 4 ?_
    refine Tr.perm (L' := x2 :: ownS 53 4 none 0 0 [] :: box b5 53 [.int .i64 3, .int .i64 0, .string ⟨#[]⟩, .slice none 0 0] :: box b4 53 [.int .i64 0, .int .i64 0, .string ⟨#[]⟩, .slice none 0 0] :: ([] ++ F)) (List.Perm.swap _ _ _) ?_
    refine Tr.loop (α := Nat × List Val × List UInt8 × Res × Mem × Option Addr × Nat × List Value) (fun y => ⟨26, [(13, .int .u64 (y.1 : Int)), (12, .int .u64 (n : Int)), (5, .pointer (some ⟨b5, 0, none⟩)), (4, .pointer (some ⟨b4, 0, none⟩)), (0, .pointer (some ⟨p, 0, none⟩)), (1, .int .i64 ((k + 1 : Nat) : Int))], [], y.2.2.2.2.1,
        y.2.2.2.1 :: ownS 53 4 y.2.2.2.2.2.1 y.2.1.length y.2.2.2.2.2.2.1 y.2.2.2.2.2.2.2 :: box b5 53 [.int .i64 3, .int .i64 0, .string ⟨#[]⟩, .slice y.2.2.2.2.2.1 y.2.1.length y.2.2.2.2.2.2.1] :: box b4 53 [.int .i64 0, .int .i64 0, .string ⟨#[]⟩, .slice none 0 0] :: ([] ++ F)⟩)
      (fun y => y.1 ≤ n ∧ y.2.1.length = y.1 ∧ Rdr y.2.2.2.2.1 p y.2.2.1 y.2.2.2.1 ∧ Mem.le M y.2.2.2.2.1 ∧ y.2.2.2.2.2.2.1 ≤ 9223372036854775807 ∧ Elems 4 (fun M c x => RVal M c x) y.2.2.2.2.1 y.2.2.2.2.2.2.2 y.2.1 ∧ y.2.2.1.length + y.1 ≤ r1.length ∧ rdL (rdV k) n r1 = (rdL (rdV k) (n - y.1) y.2.2.1).map fun z => (y.2.1 ++ z.1, z.2))
      (fun y => n - y.1) (0, [], r1, x2, M, none, 0, []) ⟨Nat.zero_le _, rfl, hx2, Mem.le.refl _, by simp, Elems.nil, Nat.le_refl _, by simp only [Nat.sub_zero]; cases rdL (rdV k) n r1 <;> simp⟩ hsQ (fun y hy => ?_)
    obtain ⟨i, l, rest, x3, M1, A3, c3, cells⟩ := y
    obtain ⟨i1, i2, i3, i4, i5, i6, i7, i8⟩ := hy
    simp only at i1 i2 i3 i4 i5 i6 i7 i8
    dsimp only
    have hu' : n ≤ 18446744073709551615 := by omega
    by_cases hlt : i < n
    · have hk1 : ((k + 1 : Nat) : Int) - 1 = (k : Int) := by omega
      repeat (first | ((with_reducible refine Tr.step rfl ?_); ((refine xiQ (z := ?_)))) | (with_reducible first | apply Tr.next | apply Tr.seq | apply Tr.region | apply Tr.nil | apply Tr.skip | apply Tr.block) | (refine Tr.cond_t rfl (by first | (with_reducible assumption) | omega) ?_))
      (((apply Tr.draw (box b5 53 [.int .i64 3, .int .i64 0, .string ⟨#[]⟩, .slice A3 l.length c3] :: _)); (kernel_rfl)); (refine tkQ 0 (hB := by exact (Sub.mem (by repeat (first | exact Sub.refl | apply Sub.cons)))) (s := by exact sfQ) (h := ?_)); (refine tkQ 1 (s := by exact slQ) (h := ?_)); (refine tkQ 2 (s := by exact Stab.move rfl) (h := ?_)); (refine tkQ 3 (s := by exact Stab.move rfl) (h := ?_)); (refine tkQ 4 (s := by exact Stab.subi rfl rfl (by omega)) (h := ?_)))
      rw [hk1]
      ((refine TrA.eff 5 rfl (by kernel_rfl) (by exact .inl rfl) ?_))
      refine Exec.callP rfl (ihk M1 p rest x3 i3 (by omega)) (List.Perm.refl _) rfl (fun v M' A' hm hR => ?_) (fun ch M' A' hm hR => ?_)
      rotate_left
      · obtain ⟨⟨rfl, rfl⟩, hno⟩ := hR
        repeat (first | (with_reducible first | apply Tr.then_panic | apply Tr.in_panic))
        refine Tr.doneP (A' := []) (i4.trans hm) (by repeat (first | exact DropL.refl | apply DropL.skip)) ⟨⟨rfl, rfl⟩, fun k' n' r' e1 e2 => by cases e1; rw [hn] at e2; cases e2; exact rdL_fail hlt i8 hno⟩
      obtain ⟨v, r2, x4, hv, hRV, rfl, hx4⟩ := hR
      obtain ⟨A5, c5, rfl, hRV', -⟩ := hRV.open_
      have hr2 := rdV_len _ _ _ _ hv
      refine ⟨hm, (by exact (Sub.mem (by repeat (first | exact Sub.refl | apply Sub.cons)))), ?_⟩
      ((refine TrA.eff 6 rfl (by kernel_rfl) (by exact .inl rfl) ?_); (((refine Knd.buildSlice ?_); (refine Exec.buildSlice (tysOk.get rfl) rfl (tysOk.get rfl) rfl rfl rfl rfl rfl (by repeat (first | exact BuildP.nil | ((apply BuildP.many); (rfl); (rfl); (rfl); (rfl); (repeat (first | exact PutL.nil | ((apply PutL.cons); (repeat (first | exact SetL.z | apply SetL.s)))))))) rfl (fun b => ?_)))); (refine ⟨(by first | exact Mem.le.refl _ | assumption), (by exact (Sub.mem (by repeat (first | exact Sub.refl | apply Sub.cons)))), ?_⟩); (refine TrA.eff 7 rfl (by kernel_rfl) (by exact .inl rfl) ?_))
      refine Exec.append (news := [.int .i64 v.k, .int .i64 v.n, .string ⟨v.s.toArray⟩, .slice A5 v.l.length c5]) rfl rfl (tysOk.get rfl) rfl (tysOk.get rfl) rfl rfl rfl rfl (by repeat (first | exact Del.here | apply Del.there)) (Src.box (by repeat (first | exact Has.here | apply Has.there))) rfl (by intro u hu; simp at hu; rcases hu with rfl | rfl | rfl | rfl <;> rfl) (by omega) (by omega) rfl (fun A6 c6 hc6 => ?_)
      refine ⟨Mem.le.refl _, (by exact (Sub.mem (by repeat (first | exact Sub.refl | apply Sub.cons)))), ?_⟩
      rw [show l.length + 1 = (l ++ [v]).length by simp]
      ((refine tkQ 8 (s := by exact sfQ) (h := ?_)); (refine TrA.effD 9 rfl (by kernel_rfl) (by kernel_rfl) (by exact .inl rfl) ?_); (((refine Knd.store ?_); ((refine xSQ (z := ?_))))); (refine ⟨_, fun _ h => h, ?_⟩); (refine TrA.done (by kernel_rfl) ?_))
      repeat (first | ((with_reducible refine Tr.step rfl ?_); (first | (refine xmQ (z := ?_)) | ((with_reducible refine Knd.binOp ?_); ((refine Exec.stab rfl (Stab.addu64 rfl rfl (by omega)) rfl ?_))))) | (with_reducible first | apply Tr.next | apply Tr.region | apply Tr.nil | apply Tr.in_normal))
      refine gvQ (r := box _ 53 _) (k := ?_)
      refine Tr.perm (List.Perm.swap _ _ _) ?_
      obtain ⟨ccs, ecs, hcs⟩ := hRV'
      have ecs' : ccs = [.int .i64 v.k, .int .i64 v.n, .string ⟨v.s.toArray⟩, .slice A5 v.l.length c5] := by
        have := Value.agg.inj ecs
        simpa using (congrArg Array.toList this).symm
      subst ecs'
      refine Tr.again (i + 1, l ++ [v], r2, x4, M', A6, c6, _) ⟨by simp only; omega, by simp [i2], hx4, i4.trans hm, hc6, (i6.mono RVal.mono' hm).append (Elems.one rfl hcs), by simp only; omega, rdL_snoc hlt i8 hv⟩ (by simp only; omega) hsQ
    · have hin : i = n := by omega
      subst hin
      rw [Nat.sub_self] at i8
      refine pbQ (r := ownS 53 4 _ _ _ _) (k := fun M2 hm2 hok2 => ?_)
      have hs := SlOf.ofOwn hok2 rfl i5 (i6.mono RVal.mono' hm2)
      have hm := i4.trans hm2
      repeat (first | ((with_reducible refine Tr.step rfl ?_); (first | (refine xwQ (z := ?_)) | (refine xiQ (z := ?_)) | (refine xWQ (z := ?_)))) | (with_reducible first | apply Tr.next | apply Tr.seq | apply Tr.region | apply Tr.nil | apply Tr.exit | apply Tr.ret | apply Tr.then_exit) | ((with_reducible refine Tr.in_exit ?_ ?_); (exact rfl)) | (refine Tr.cond_f rfl (by first | (with_reducible assumption) | omega) ?_))
      refine Tr.ofPost ?_
      refine Tr.doneB (A' := [x3]) [box b5 53 _, box b4 53 _] (by first | exact .inl rfl | exact .inr rfl) rfl (by repeat (first | exact RVs.nil | (apply RVs.cons; (exact RV.cellW (by rfl) (tysOk.get (by rfl)) (by rfl) (by repeat (first | exact Has.here | apply Has.there)) (by rfl))))) hm ((List.Perm.swap _ _ _).trans ((List.Perm.swap _ _ _).cons _)) ⟨k, i, r1, l, rest, x3, rfl, hn, by rw [i8]; simp [rdL], ⟨_, rfl, RVal.close (s := []) (by omega) (by omega) (by simp) hs⟩, rfl, i3.mono hm2⟩

theorem rdV_eq (room : Nat) (k : UInt8) (bs : List UInt8) : rdV room (k :: bs) = rdStep (match room with | 0 => none | r + 1 => some (rdV r)) (k :: bs) := by cases room <;> rfl
set_option maxHeartbeats 2000000 in
theorem value_fn : ∀ (room : Nat), room ≤ 16 → ValueOk room := by
  intro room
  induction room using Nat.strongRecOn with
  | _ room ih =>
  intro hroom M p bs x h hlen
  have ih' : ∀ k, k < room → ValueOk k := fun k hk => ih k hk (by omega)
  refine FnP.intro Tryz.func56 rfl rfl Tryz.ntmps56 rfl fun E F => ?_
  repeat (first | ((with_reducible refine Tr.step rfl ?_); (first | (refine xmQ (z := ?_)) | ((with_reducible refine Knd.alloc ?_); ((refine Exec.alloc (tysOk.get rfl) rfl rfl (fun b => ?_)))))) | (with_reducible first | apply Tr.next | apply Tr.seq | apply Tr.region | apply Tr.nil))
  generalize hb4 : b = b4
  ((refine Tr.step rfl ?_))
  refine Exec.callP rfl (take_fn M p bs x h 1 (by omega)) (List.Perm.swap _ _ _) rfl (fun v M' A' hm hR => ?_) (fun ch M' A' hm hR => ?_)
  rotate_left
  · obtain ⟨⟨rfl, rfl⟩, hlt⟩ := hR
    have hnil : bs = [] := List.eq_nil_of_length_eq_zero (by omega)
    subst hnil
    repeat ((with_reducible refine Tr.then_panic ?_))
    refine Tr.doneP (A' := []) hm (by repeat (first | exact DropL.refl | apply DropL.skip)) ⟨⟨rfl, rfl⟩, by cases room <;> rfl⟩
  obtain ⟨rfl, hle, ⟨A1, c1, rfl, hb1⟩, x2, rfl, hx2⟩ := hR
  cases bs with
  | nil => simp at hle
  | cons c r =>
  have hb1' : BSl M (.slice A1 1 c1) [c] := by simpa using hb1
  obtain ⟨hA1, hat⟩ := hb1'.byte (j := 0) (c := c) rfl
  have hx2' : Rdr M p r x2 := by simpa using hx2
  have hc8 := c.toNat_lt
  have hrl : r.length ≤ 1000000000 := by simp at hlen; omega
  repeat (first | ((with_reducible refine Tr.step rfl ?_); (first | (refine xmQ (z := ?_)) | (refine xaQ (z := ?_)) | (refine xMQ (z := ?_)) | (refine xxQ (z := ?_)) | ((with_reducible refine Knd.convert ?_); ((refine Exec.stab rfl (Stab.convi rfl (tysOk.get rfl) (tysOk.get rfl) rfl rfl (by omega)) rfl ?_))))) | (with_reducible first | apply Tr.next | apply Tr.seq | apply Tr.region | apply Tr.nil))
  ((refine Tr.step rfl ?_)); refine Exec.call0 rfl (known_fn M (c.toNat : Int)) rfl ?_
  rintro _ _ _ ⟨rfl, rfl⟩
  by_cases hkn : 1 ≤ (c.toNat : Int) ∧ (c.toNat : Int) ≤ 3
  rotate_left
  · have hf : decide (1 ≤ (c.toNat : Int) ∧ (c.toNat : Int) ≤ 3) = false := decide_eq_false hkn
    rw [hf]
    repeat (first | ((with_reducible refine Tr.step rfl ?_); (first | ((with_reducible refine Knd.makeInterface ?_); (refine Exec.stab rfl (Stab.makeIface rfl (by kernel_rfl)) rfl ?_)) | ((with_reducible refine Knd.panic ?_); (refine Exec.panic rfl ?_)) | ((with_reducible refine Knd.unOp ?_); ((refine Exec.stab rfl (Stab.not rfl) rfl ?_))) | ((with_reducible refine Knd.build ?_); ((refine Exec.stab rfl (Stab.build tysOk rfl rfl rfl rfl (by repeat (exact BuildP.nil))) rfl ?_))))) | (with_reducible first | apply Tr.next | apply Tr.region | apply Tr.nil | apply Tr.then_panic) | (refine Tr.cond_bt rfl (by first | (with_reducible rfl) | (with_reducible exact Bool.not_false)) ?_))
    refine Tr.doneP (A' := []) hm (by repeat (first | exact DropL.refl | apply DropL.skip)) ⟨⟨rfl, rfl⟩, by rw [rdV_eq, rdStep_cons, if_neg (by omega), if_neg (by omega), if_neg (by omega)]⟩
  rw [decide_eq_true hkn]
  repeat (first | ((with_reducible refine Tr.step rfl ?_); (((with_reducible refine Knd.unOp ?_); ((refine Exec.stab rfl (Stab.not rfl) rfl ?_))))) | (with_reducible first | apply Tr.next | apply Tr.seq | apply Tr.region | apply Tr.nil | apply Tr.skip) | (refine Tr.cond_bf rfl (by first | (with_reducible rfl) | (with_reducible exact Bool.not_true)) ?_))
  ((refine Tr.step rfl ?_)); refine Exec.call0 rfl (kinds_fn M) rfl ?_
  rintro _ _ _ ⟨rfl, rfl⟩
  by_cases h1 : c.toNat = 1
  · rw [h1]
    repeat (((with_reducible refine Tr.step rfl ?_); (first | (refine xmQ (z := ?_)) | ((with_reducible refine Knd.index ?_); (refine Exec.stab rfl (Stab.indexVA rfl rfl (tysOk.get rfl) rfl (tysOk.get rfl) rfl (by omega) (by omega) rfl (by repeat (first | exact TakeL.z | apply TakeL.s))) rfl ?_)) | ((with_reducible refine Knd.field ?_); ((refine Exec.stab rfl (Stab.field rfl (tysOk.get rfl) rfl rfl (tysOk.get rfl) rfl rfl) rfl ?_))))))
    ((refine Tr.step rfl ?_))
    refine Exec.callPv (first := []) (cap := []) rfl rfl (readInt_fn M p r x2 room hx2') (List.Perm.refl _) rfl (fun v M' A' hm hR => ?_) (fun ch M' A' hm hR => ?_)
    rotate_left
    · obtain ⟨⟨rfl, rfl⟩, hno⟩ := hR
      repeat ((with_reducible refine Tr.then_panic ?_))
      refine Tr.doneP (A' := []) hm (by repeat (first | exact DropL.refl | apply DropL.skip)) ⟨⟨rfl, rfl⟩, by rw [rdV_eq, rdStep_cons, if_pos h1, hno]; rfl⟩
    obtain ⟨rfl, u, rest, x3, hn, hRV, rfl, hx3⟩ := hR
    obtain ⟨A5, c5, rfl, hRV', -⟩ := hRV.open_
    repeat (first | ((with_reducible refine Tr.step rfl ?_); ((refine xWQ (z := ?_)))) | (with_reducible first | apply Tr.next | apply Tr.nil | apply Tr.ret))
    refine Tr.ofPost ?_
    refine Tr.doneB (A' := [x3]) [box b4 53 _] (by first | exact .inl rfl | exact .inr rfl) rfl (by repeat (first | exact RVs.nil | (apply RVs.cons; (exact RV.cellW (by rfl) (tysOk.get (by rfl)) (by rfl) (by repeat (first | exact Has.here | apply Has.there)) (by rfl))))) (Mem.le.refl _) (List.Perm.swap _ _ _) ?_
    exact ⟨_, rest, x3, by rw [rdV_eq, rdStep_cons, if_pos h1, hn]; rfl, hRV', rfl, hx3⟩
  by_cases h2 : c.toNat = 2
  · rw [h2]
    repeat (((with_reducible refine Tr.step rfl ?_); (first | (refine xmQ (z := ?_)) | ((with_reducible refine Knd.index ?_); (refine Exec.stab rfl (Stab.indexVA rfl rfl (tysOk.get rfl) rfl (tysOk.get rfl) rfl (by omega) (by omega) rfl (by repeat (first | exact TakeL.z | apply TakeL.s))) rfl ?_)) | ((with_reducible refine Knd.field ?_); ((refine Exec.stab rfl (Stab.field rfl (tysOk.get rfl) rfl rfl (tysOk.get rfl) rfl rfl) rfl ?_))))))
    ((refine Tr.step rfl ?_))
    refine Exec.callPv (first := []) (cap := []) rfl rfl (readText_fn M p r x2 room hx2') (List.Perm.refl _) rfl (fun v M' A' hm hR => ?_) (fun ch M' A' hm hR => ?_)
    rotate_left
    · obtain ⟨⟨rfl, rfl⟩, hno⟩ := hR
      repeat ((with_reducible refine Tr.then_panic ?_))
      refine Tr.doneP (A' := []) hm (by repeat (first | exact DropL.refl | apply DropL.skip)) ⟨⟨rfl, rfl⟩, ?_⟩
      rw [rdV_eq, rdStep_cons, if_neg h1, if_pos h2]
      cases hn : rdN 0 r with
      | none => rfl
      | some z =>
        obtain ⟨n, rest⟩ := z
        have := hno n rest hn
        dsimp only
        rw [if_neg (by omega)]
    obtain ⟨rfl, n, rest, x3, hn, hle', hRV, rfl, hx3⟩ := hR
    obtain ⟨A5, c5, rfl, hRV', -⟩ := hRV.open_
    repeat (first | ((with_reducible refine Tr.step rfl ?_); ((refine xWQ (z := ?_)))) | (with_reducible first | apply Tr.next | apply Tr.nil | apply Tr.ret))
    refine Tr.ofPost ?_
    refine Tr.doneB (A' := [x3]) [box b4 53 _] (by first | exact .inl rfl | exact .inr rfl) rfl (by repeat (first | exact RVs.nil | (apply RVs.cons; (exact RV.cellW (by rfl) (tysOk.get (by rfl)) (by rfl) (by repeat (first | exact Has.here | apply Has.there)) (by rfl))))) (Mem.le.refl _) (List.Perm.swap _ _ _) ?_
    exact ⟨_, rest.drop n, x3, by rw [rdV_eq, rdStep_cons, if_neg h1, if_pos h2, hn]; dsimp only; rw [if_pos hle'], hRV', rfl, hx3⟩
  have h3 : c.toNat = 3 := by omega
  rw [h3]
  repeat (((with_reducible refine Tr.step rfl ?_); (first | (refine xmQ (z := ?_)) | ((with_reducible refine Knd.index ?_); (refine Exec.stab rfl (Stab.indexVA rfl rfl (tysOk.get rfl) rfl (tysOk.get rfl) rfl (by omega) (by omega) rfl (by repeat (first | exact TakeL.z | apply TakeL.s))) rfl ?_)) | ((with_reducible refine Knd.field ?_); ((refine Exec.stab rfl (Stab.field rfl (tysOk.get rfl) rfl rfl (tysOk.get rfl) rfl rfl) rfl ?_))))))
  ((refine Tr.step rfl ?_))
  refine Exec.callPv (first := []) (cap := []) rfl rfl (readList_fn room hroom ih' M p r x2 hx2' hrl) (List.Perm.refl _) rfl (fun v M' A' hm hR => ?_) (fun ch M' A' hm hR => ?_)
  rotate_left
  · obtain ⟨⟨rfl, rfl⟩, hno⟩ := hR
    repeat ((with_reducible refine Tr.then_panic ?_))
    refine Tr.doneP (A' := []) hm (by repeat (first | exact DropL.refl | apply DropL.skip)) ⟨⟨rfl, rfl⟩, ?_⟩
    rw [rdV_eq, rdStep_cons, if_neg h1, if_neg h2, if_pos h3]
    cases room with
    | zero => rfl
    | succ k =>
      dsimp only
      cases hn : rdN 0 r with
      | none => rfl
      | some z =>
        obtain ⟨n, r1⟩ := z
        dsimp only
        rw [hno k n r1 rfl hn]
        rfl
  obtain ⟨k, n, r1, l, rest, x3, rfl, hn, hl, hRV, rfl, hx3⟩ := hR
  obtain ⟨A5, c5, rfl, hRV', -⟩ := hRV.open_
  repeat (first | ((with_reducible refine Tr.step rfl ?_); ((refine xWQ (z := ?_)))) | (with_reducible first | apply Tr.next | apply Tr.nil | apply Tr.ret))
  refine Tr.ofPost ?_
  refine Tr.doneB (A' := [x3]) [box b4 53 _] (by first | exact .inl rfl | exact .inr rfl) rfl (by repeat (first | exact RVs.nil | (apply RVs.cons; (exact RV.cellW (by rfl) (tysOk.get (by rfl)) (by rfl) (by repeat (first | exact Has.here | apply Has.there)) (by rfl))))) hm (List.Perm.swap _ _ _) ?_
  exact ⟨_, rest, x3, by rw [rdV_eq, rdStep_cons, if_neg h1, if_neg h2, if_pos h3]; dsimp only; rw [hn]; dsimp only; rw [hl]; rfl, hRV', rfl, hx3⟩
end Go.Proofs.YtghjhdbmkilakaaGreatDoor

/-
  The codec: the contract of Decode.
  Conditions: none.
-/
namespace Go.Proofs.YtghjhdbmkilakaaGreatDoor
open Go Bf
attribute [local irreducible] Tr Exec Stab HasTy Go.Addr.add IntKind.wrap
def doneCh : List PanicEntry := [{ v := .iface 132 (.agg #[]), recovered := true }]
set_option maxHeartbeats 1000000 in
theorem rec_panic (M : Mem) (b2 b3 : Nat) (a0 a1 a2 a3 e0 : Value) :
    CD Tryz.prog 55 [.pointer (some ⟨b2, 0, none⟩), .pointer (some ⟨b3, 0, none⟩)] (.panicking failCh) M [box b2 53 [a0, a1, a2, a3], box b3 31 [e0]]
      (fun u' M' A' => u' = .panicking doneCh ∧ M = M' ∧ A' = [box b2 53 [.int .i64 0, .int .i64 0, .string ⟨#[]⟩, .slice none 0 0], box b3 31 [.int .i64 10]]) := by
  refine CD.intro (n := 7) Tryz.func55 rfl rfl Tryz.ntmps55 rfl rfl rfl (v := .iface 132 (.agg #[])) (.inl ⟨[], rfl, rfl⟩) fun E F => ?_
  repeat (first | ((with_reducible refine Tr.step rfl ?_); ((refine xmQ (z := ?_)))) | (with_reducible first | apply Tr.seq | apply Tr.region))
  refine Tr.step rfl ?_
  refine Exec.stab rfl (Stab.ifacene rfl (tysOk.get rfl) rfl) rfl ?_
  repeat (first | ((with_reducible refine Tr.step rfl ?_); (first | ((with_reducible refine Knd.store ?_); (first | (refine xSQ (z := ?_)) | (refine xWQ (z := ?_)))) | ((with_reducible refine Knd.build ?_); ((refine Exec.stab rfl (Stab.build tysOk rfl rfl rfl rfl (by repeat (exact BuildP.nil))) rfl ?_))))) | (with_reducible first | apply Tr.next | apply Tr.region | apply Tr.nil) | (refine Tr.cond_bt rfl (by first | (with_reducible rfl) | (with_reducible assumption) | (with_reducible exact Bool.not_true) | (with_reducible exact Bool.not_false)) ?_))
  refine Tr.doneC (by first | exact .inl rfl | exact .inr rfl) rfl (by repeat (exact RVs.nil)) (Mem.le.refl _) DropL.refl ⟨rfl, rfl, rfl⟩
set_option maxHeartbeats 1000000 in
theorem rec_idle (M : Mem) (b2 b3 : Nat) (A : List Res) :
    CD Tryz.prog 55 [.pointer (some ⟨b2, 0, none⟩), .pointer (some ⟨b3, 0, none⟩)] .returning M A
      (fun u' M' A' => u' = .returning ∧ M = M' ∧ A' = A) := by
  refine CD.intro (n := 7) Tryz.func55 rfl rfl Tryz.ntmps55 rfl rfl rfl (v := .nilIface) (.inr ⟨rfl, rfl, rfl⟩) fun E F => ?_
  repeat (first | ((with_reducible refine Tr.step rfl ?_); ((refine xmQ (z := ?_)))) | (with_reducible first | apply Tr.seq | apply Tr.region))
  refine Tr.step rfl ?_
  refine Exec.stab rfl (Stab.nilne rfl (tysOk.get rfl) rfl) rfl ?_
  repeat (first | (with_reducible first | apply Tr.next | apply Tr.nil | apply Tr.skip) | (refine Tr.cond_bf rfl (by first | (with_reducible rfl) | (with_reducible assumption) | (with_reducible exact Bool.not_true) | (with_reducible exact Bool.not_false)) ?_))
  refine Tr.doneC (by first | exact .inl rfl | exact .inr rfl) rfl (by repeat (exact RVs.nil)) (Mem.le.refl _) DropL.refl ⟨rfl, rfl, rfl⟩

/-- what Decode answers -/
def decF (bs : List UInt8) : Val × Int := match rdV 16 bs with
  | some (v, []) => (v, 0)
  | _ => (zVal, 10)
def RVE (M : Mem) (r : Value) (p : Val × Int) : Prop := ∃ v, r = .tuple #[v, .int .i64 p.2] ∧ RV M v p.1
theorem RV.zero (M : Mem) : RV M (.agg #[.int .i64 0, .int .i64 0, .string ⟨#[]⟩, .slice none 0 0]) zVal := ⟨_, rfl, RVal.zero M⟩
set_option maxHeartbeats 2000000 in
theorem decode_fn (M : Mem) (A : Option Addr) (c : Nat) (bs : List UInt8) (hb : BSl M (.slice A bs.length c) bs) (hl : bs.length ≤ 1000000000) :
    Fn0 Tryz.prog 24 [.slice A bs.length c] M (fun r M' => RVE M' r (decF bs)) := by
  refine Fn.introD Tryz.func24 rfl rfl Tryz.ntmps24 rfl fun E F => ?_
  repeat (first | ((with_reducible refine Tr.step rfl ?_); (first | ((with_reducible refine Knd.makeFunc ?_); (refine Exec.stab rfl (Stab.makeFunc rfl rfl) rfl ?_)) | ((with_reducible refine Knd.alloc ?_); (first | (refine Exec.alloc (tysOk.get rfl) rfl rfl (fun b => ?_)) | (refine Exec.alloc1 (tysOk.get rfl) rfl rfl rfl (fun b => ?_)))))) | (with_reducible first | apply Tr.next | apply Tr.seq | apply Tr.region | apply Tr.nil))
  refine Tr.step rfl ?_
  refine Exec.defer (first := []) (vs := []) rfl rfl ?_
  repeat (first | ((with_reducible refine Tr.step rfl ?_); (first | (refine xmQ (z := ?_)) | (refine xaQ (z := ?_)) | ((with_reducible refine Knd.box ?_); (first | (refine Exec.box rfl rfl (fun b => ?_)) | (refine Exec.box1 rfl (by first | rfl | assumption) rfl (fun b => ?_)))) | ((with_reducible refine Knd.build ?_); ((refine Exec.stab rfl (Stab.build tysOk rfl rfl rfl rfl (by repeat (first | exact BuildP.nil | ((apply BuildP.one); (rfl); (rfl); (first | rfl | assumption); (repeat (first | exact SetL.z | apply SetL.s)))))) rfl ?_))))) | (with_reducible first | apply Tr.next | apply Tr.seq | apply Tr.region | apply Tr.nil))
  generalize hbr : b = br
  rename_i b2 b3
  ((refine Tr.step rfl ?_))
  refine Exec.callP rfl (value_fn 16 (by omega) M br bs (box br 98 [.slice A bs.length c]) ⟨A, c, rfl, hb⟩ hl) (List.Perm.refl _) rfl (fun v M' A' hm hR => ?_) (fun ch M' A' hm hR => ?_)
  rotate_left
  · obtain ⟨⟨rfl, rfl⟩, hno⟩ := hR
    repeat ((with_reducible refine Tr.then_panic ?_))
    refine Tr.panicD (vs0 := []) (cap := [.pointer (some ⟨b2, 0, none⟩), .pointer (some ⟨b3, 0, none⟩)]) (A := [box b2 53 [.int .i64 0, .int .i64 0, .string ⟨#[]⟩, .slice none 0 0], box b3 31 [.int .i64 0]]) (F1 := [] ++ F) (rec_panic M' b2 b3 _ _ _ _ _) (List.Perm.swap _ _ _) rfl ?_
    rintro u' M'' A'' hm' ⟨rfl, rfl, rfl⟩
    refine ⟨rfl, _, (by repeat (first | exact RVs.nil | (apply RVs.cons; (first | exact RV.cellW (by rfl) (tysOk.get (by rfl)) (by rfl) (by repeat (first | exact Has.here | apply Has.there)) (by rfl) | exact RV.cell (by rfl) (tysOk.get (by rfl)) (by rfl) (by repeat (first | exact Has.here | apply Has.there)))))), hm, [box b2 53 [.int .i64 0, .int .i64 0, .string ⟨#[]⟩, .slice none 0 0], box b3 31 [.int .i64 10]], [], List.Perm.refl _, rfl, ?_⟩
    have e : decF bs = (zVal, 10) := by unfold decF; rw [hno]
    rw [e]
    exact ⟨_, rfl, RV.zero _⟩
  obtain ⟨v, rest, x2, hv, hRV, rfl, hx2⟩ := hR
  obtain ⟨A5, c5, rfl, hRV', -⟩ := hRV.open_
  obtain ⟨A2, c2, rfl, hb2⟩ := hx2
  have hb2l := hb2.len_le
  by_cases hr : 0 < rest.length
  · have e : decF bs = (zVal, 10) := by
      unfold decF
      rw [hv]
      cases rest with
      | nil => simp at hr
      | cons _ _ => rfl
    repeat (first | ((with_reducible refine Tr.step rfl ?_); (first | (refine xmQ (z := ?_)) | (refine xlQ (z := ?_)) | (refine xfQ (z := ?_)) | (refine xnQ (z := ?_)) | ((with_reducible refine Knd.nilCheck ?_); (refine Exec.stab rfl (Stab.nilCheck rfl) rfl ?_)) | (refine xiQ (z := ?_)) | ((with_reducible refine Knd.store ?_); (first | (refine xSQ (z := ?_)) | (refine xWQ (z := ?_)))) | ((with_reducible refine Knd.build ?_); ((refine Exec.stab rfl (Stab.build tysOk rfl rfl rfl rfl (by repeat (exact BuildP.nil))) rfl ?_))))) | (with_reducible first | apply Tr.next | apply Tr.seq | apply Tr.region | apply Tr.nil | apply Tr.ret | apply Tr.then_ret) | (refine Tr.cond_t rfl (by first | (with_reducible assumption) | omega) ?_))
    refine Tr.doneD (vs0 := []) (cap := [.pointer (some ⟨b2, 0, none⟩), .pointer (some ⟨b3, 0, none⟩)]) (A := []) (by first | exact .inl rfl | exact .inr rfl) (rec_idle M' b2 b3 []) (List.Perm.refl _) rfl ?_
    rintro u' M'' A'' hm' ⟨rfl, rfl, rfl⟩
    refine ⟨rfl, _, (by repeat (first | exact RVs.nil | (apply RVs.cons; (first | exact RV.cellW (by rfl) (tysOk.get (by rfl)) (by rfl) (by repeat (first | exact Has.here | apply Has.there)) (by rfl) | exact RV.cell (by rfl) (tysOk.get (by rfl)) (by rfl) (by repeat (first | exact Has.here | apply Has.there)))))), hm, [box br 98 _, box b3 31 _, box b2 53 _], [], List.Perm.refl _, rfl, ?_⟩
    rw [e]
    exact ⟨_, rfl, RV.zero _⟩
  · have e : decF bs = (v, 0) := by
      unfold decF
      rw [hv]
      cases rest with
      | nil => rfl
      | cons _ _ => simp at hr
    repeat (first | ((with_reducible refine Tr.step rfl ?_); (first | (refine xmQ (z := ?_)) | ((with_reducible refine Knd.load ?_); (first | (refine xlQ (z := ?_)) | (refine xwQ (z := ?_)))) | (refine xfQ (z := ?_)) | (refine xnQ (z := ?_)) | ((with_reducible refine Knd.nilCheck ?_); (refine Exec.stab rfl (Stab.nilCheck rfl) rfl ?_)) | (refine xiQ (z := ?_)) | ((with_reducible refine Knd.store ?_); (first | (refine xSQ (z := ?_)) | (refine xWQ (z := ?_)))))) | (with_reducible first | apply Tr.next | apply Tr.seq | apply Tr.region | apply Tr.nil | apply Tr.skip | apply Tr.ret) | (refine Tr.cond_f rfl (by first | (with_reducible assumption) | omega) ?_))
    refine Tr.doneD (vs0 := []) (cap := [.pointer (some ⟨b2, 0, none⟩), .pointer (some ⟨b3, 0, none⟩)]) (A := []) (by first | exact .inl rfl | exact .inr rfl) (rec_idle M' b2 b3 []) (List.Perm.refl _) rfl ?_
    rintro u' M'' A'' hm' ⟨rfl, rfl, rfl⟩
    refine ⟨rfl, _, (by repeat (first | exact RVs.nil | (apply RVs.cons; (first | exact RV.cellW (by rfl) (tysOk.get (by rfl)) (by rfl) (by repeat (first | exact Has.here | apply Has.there)) (by rfl) | exact RV.cell (by rfl) (tysOk.get (by rfl)) (by rfl) (by repeat (first | exact Has.here | apply Has.there)))))), hm, [box br 98 _, box b3 31 _, box b2 53 _], [], List.Perm.refl _, rfl, ?_⟩
    rw [e]
    exact ⟨_, rfl, hRV'⟩
end Go.Proofs.YtghjhdbmkilakaaGreatDoor

/-
  The codec: which values are well-formed, and how deep they are; the contracts of formed, depth and Check.
  Conditions: none.
-/
namespace Go.Proofs.YtghjhdbmkilakaaGreatDoor
open Go Bf
attribute [local irreducible] Tr Exec Stab HasTy Go.Addr.add IntKind.wrap
theorem Val.ind {P : Val → Prop} (h : ∀ k n s l, (∀ x ∈ l, P x) → P (.mk k n s l)) : ∀ v, P v
  | .mk k n s l => h k n s l fun x hx => Val.ind h x
termination_by v => SizeOf.sizeOf v
decreasing_by
  have := List.sizeOf_lt_of_mem hx
  simp
  omega
mutual
def formed : Val → Bool
  | .mk k n s l => ((decide (k = 1) && s.isEmpty && l.isEmpty) || (decide (k = 2) && decide (n = 0) && l.isEmpty) || (decide (k = 3) && decide (n = 0) && s.isEmpty)) && formedL l
def formedL : List Val → Bool
  | [] => true
  | x :: l => formed x && formedL l
end
mutual
def depth : Val → Nat
  | .mk k _ _ l => if k = 3 then depthL l + 1 else 0
def depthL : List Val → Nat
  | [] => 0
  | x :: l => max (depth x) (depthL l)
end
theorem formedL_all : ∀ l : List Val, formedL l = l.all formed
  | [] => rfl
  | x :: l => by rw [formedL, List.all_cons, formedL_all l]
/-- what a value of its kind must not have -/
def pureOk (v : Val) : Bool := (decide (v.k = 1) && v.s.isEmpty && v.l.isEmpty) || (decide (v.k = 2) && decide (v.n = 0) && v.l.isEmpty) || (decide (v.k = 3) && decide (v.n = 0) && v.s.isEmpty)
theorem formed_eq (v : Val) : formed v = (pureOk v && v.l.all formed) := by
  cases v with
  | mk k n s l => rw [formed, formedL_all]; rfl
theorem strE (s : List UInt8) : decide (({ data := s.toArray } : ByteArray).data.toList = ({ data := #[] } : ByteArray).data.toList) = s.isEmpty := by
  cases s <;> simp
theorem lenE {α : Type} (l : List α) : decide ((l.length : Int) = 0) = l.isEmpty := by
  cases l with
  | nil => rfl
  | cons x l => simp; omega
set_option maxHeartbeats 1000000 in
theorem pure1_fn (M : Mem) (r : Value) (v : Val) (h : RV M r v) : Fn0 Tryz.prog 74 [r] M (fun r M' => r = .bool (v.s.isEmpty && v.l.isEmpty) ∧ M = M') := by
  obtain ⟨A, c, rfl, -⟩ := h.open_
  refine Fn.intro Tryz.func74 rfl rfl Tryz.ntmps74 rfl fun E F => ?_
  repeat (first | ((with_reducible refine Tr.step rfl ?_); (first | (refine xmQ (z := ?_)) | (refine xaQ (z := ?_)) | (refine xlQ (z := ?_)) | (refine xfQ (z := ?_)) | ((with_reducible refine Knd.binOp ?_); ((refine Exec.stab rfl (Stab.streq rfl rfl) rfl ?_))) | ((with_reducible refine Knd.box ?_); ((refine Exec.box rfl rfl (fun b => ?_)))))) | (with_reducible first | apply Tr.next | apply Tr.seq | apply Tr.region | apply Tr.nil))
  rw [strE]
  by_cases hs : v.s.isEmpty = true
  · repeat (first | ((with_reducible refine Tr.step rfl ?_); (first | (refine xaQ (z := ?_)) | ((with_reducible refine Knd.pick ?_); ((refine Exec.stab rfl (Stab.pick_t rfl (by (with_reducible assumption)) rfl) rfl ?_))))) | (with_reducible first | apply Tr.next | apply Tr.nil) | ((refine Tr.guard_l rfl rfl rfl (by first | (with_reducible rfl) | (with_reducible assumption)) ?_); (first | (refine xlQ (z := ?_)) | (refine xfQ (z := ?_)) | (refine xnQ (z := ?_)) | (refine xiQ (z := ?_)))) | (with_reducible refine Tr.ret ?_))
    (refine dnQ (hL := by exact ⟨[_], rfl⟩) (k := ⟨rfl, ?_⟩))
    exact ⟨by show Value.bool (decide ((v.l.length : Int) = 0)) = _; rw [lenE, hs]; rfl, rfl⟩
  · have hs : v.s.isEmpty = false := by simpa using hs
    repeat (first | ((with_reducible refine Tr.step rfl ?_); (first | (refine xaQ (z := ?_)) | ((with_reducible refine Knd.pick ?_); ((refine Exec.stab rfl (Stab.pick_f rfl (by (with_reducible assumption)) rfl) rfl ?_))))) | (with_reducible first | apply Tr.next | apply Tr.nil) | (refine Tr.guard_s1 rfl rfl rfl (by first | (with_reducible rfl) | (with_reducible assumption)) rfl rfl ?_) | (with_reducible refine Tr.ret ?_))
    (refine dnQ (hL := by exact ⟨[_], rfl⟩) (k := ⟨rfl, ?_⟩))
    exact ⟨by rw [hs]; rfl, rfl⟩
set_option maxHeartbeats 1000000 in
theorem pure2_fn (M : Mem) (r : Value) (v : Val) (h : RV M r v) : Fn0 Tryz.prog 81 [r] M (fun r M' => r = .bool (decide (v.n = 0) && v.l.isEmpty) ∧ M = M') := by
  obtain ⟨A, c, rfl, -⟩ := h.open_
  refine Fn.intro Tryz.func81 rfl rfl Tryz.ntmps81 rfl fun E F => ?_
  repeat (first | ((with_reducible refine Tr.step rfl ?_); (first | (refine xmQ (z := ?_)) | (refine xaQ (z := ?_)) | (refine xlQ (z := ?_)) | (refine xfQ (z := ?_)) | (refine xiQ (z := ?_)) | ((with_reducible refine Knd.box ?_); ((refine Exec.box rfl rfl (fun b => ?_)))))) | (with_reducible first | apply Tr.next | apply Tr.seq | apply Tr.region | apply Tr.nil))
  by_cases hs : v.n = 0
  · repeat (first | ((with_reducible refine Tr.step rfl ?_); (first | (refine xaQ (z := ?_)) | ((with_reducible refine Knd.pick ?_); ((refine Exec.stab rfl (Stab.pick_td rfl (by first | (with_reducible assumption) | omega) rfl) rfl ?_))))) | (with_reducible first | apply Tr.next | apply Tr.nil) | ((refine Tr.guard_y rfl rfl rfl (by first | (with_reducible assumption) | omega) ?_); (first | (refine xlQ (z := ?_)) | (refine xfQ (z := ?_)) | (refine xnQ (z := ?_)) | (refine xiQ (z := ?_)))) | (with_reducible refine Tr.ret ?_))
    (refine dnQ (hL := by exact ⟨[_], rfl⟩) (k := ⟨rfl, ?_⟩))
    exact ⟨by show Value.bool (decide ((v.l.length : Int) = 0)) = _; rw [lenE, decide_eq_true hs]; rfl, rfl⟩
  · repeat (first | ((with_reducible refine Tr.step rfl ?_); (first | (refine xaQ (z := ?_)) | ((with_reducible refine Knd.pick ?_); ((refine Exec.stab rfl (Stab.pick_fd rfl (by first | (with_reducible assumption) | omega) rfl) rfl ?_))))) | (with_reducible first | apply Tr.next | apply Tr.nil) | (refine Tr.guard_n rfl rfl rfl (by first | (with_reducible assumption) | omega) rfl rfl ?_) | (with_reducible refine Tr.ret ?_))
    (refine dnQ (hL := by exact ⟨[_], rfl⟩) (k := ⟨rfl, ?_⟩))
    exact ⟨by rw [decide_eq_false hs]; rfl, rfl⟩
set_option maxHeartbeats 1000000 in
theorem pure3_fn (M : Mem) (r : Value) (v : Val) (h : RV M r v) : Fn0 Tryz.prog 85 [r] M (fun r M' => r = .bool (decide (v.n = 0) && v.s.isEmpty) ∧ M = M') := by
  obtain ⟨A, c, rfl, -⟩ := h.open_
  refine Fn.intro Tryz.func85 rfl rfl Tryz.ntmps85 rfl fun E F => ?_
  repeat (first | ((with_reducible refine Tr.step rfl ?_); (first | (refine xmQ (z := ?_)) | (refine xaQ (z := ?_)) | (refine xlQ (z := ?_)) | (refine xfQ (z := ?_)) | (refine xiQ (z := ?_)) | ((with_reducible refine Knd.box ?_); ((refine Exec.box rfl rfl (fun b => ?_)))))) | (with_reducible first | apply Tr.next | apply Tr.seq | apply Tr.region | apply Tr.nil))
  by_cases hs : v.n = 0
  · repeat (first | ((with_reducible refine Tr.step rfl ?_); (first | (refine xaQ (z := ?_)) | ((with_reducible refine Knd.pick ?_); ((refine Exec.stab rfl (Stab.pick_td rfl (by first | (with_reducible assumption) | omega) rfl) rfl ?_))))) | (with_reducible first | apply Tr.next | apply Tr.nil) | ((refine Tr.guard_y rfl rfl rfl (by first | (with_reducible assumption) | omega) ?_); (first | (refine xlQ (z := ?_)) | (refine xfQ (z := ?_)) | ((with_reducible refine Knd.binOp ?_); ((refine Exec.stab rfl (Stab.streq rfl rfl) rfl ?_))))) | (with_reducible refine Tr.ret ?_))
    (refine dnQ (hL := by exact ⟨[_], rfl⟩) (k := ⟨rfl, ?_⟩))
    exact ⟨by show Value.bool (decide (({ data := v.s.toArray } : ByteArray).data.toList = ({ data := #[] } : ByteArray).data.toList)) = _; rw [strE, decide_eq_true hs]; rfl, rfl⟩
  · repeat (first | ((with_reducible refine Tr.step rfl ?_); (first | (refine xaQ (z := ?_)) | ((with_reducible refine Knd.pick ?_); ((refine Exec.stab rfl (Stab.pick_fd rfl (by first | (with_reducible assumption) | omega) rfl) rfl ?_))))) | (with_reducible first | apply Tr.next | apply Tr.nil) | (refine Tr.guard_n rfl rfl rfl (by first | (with_reducible assumption) | omega) rfl rfl ?_) | (with_reducible refine Tr.ret ?_))
    (refine dnQ (hL := by exact ⟨[_], rfl⟩) (k := ⟨rfl, ?_⟩))
    exact ⟨by rw [decide_eq_false hs]; rfl, rfl⟩

set_option maxHeartbeats 2000000 in
theorem formed_fn (M : Mem) : ∀ (v : Val) (r : Value), RV M r v → Fn0 Tryz.prog 72 [r] M (fun r M' => r = .bool (formed v) ∧ M = M') := by
  intro v
  induction v using Val.ind with
  | h k n s l ih =>
  intro r hr
  generalize hv : Val.mk k n s l = v at hr
  have hvk : v.k = k := by rw [← hv]; rfl
  have hvl : v.l = l := by rw [← hv]; rfl
  obtain ⟨A, c, rfl, hR, hl, hk, -⟩ := hr.open_
  have hll := hl.len_le
  rw [formed_eq]
  refine Fn.intro Tryz.func72 rfl rfl Tryz.ntmps72 rfl fun E F => ?_
  repeat (first | ((with_reducible refine Tr.step rfl ?_); (first | (refine xaQ (z := ?_)) | ((with_reducible refine Knd.box ?_); ((refine Exec.box rfl rfl (fun b => ?_)))))) | (with_reducible first | apply Tr.next | apply Tr.seq | apply Tr.region | apply Tr.nil))
  refine Tr.cut (α := Bool) (fun y => ⟨30, [(18, .bool y), (2, .bool false), (1, .pointer (some ⟨b, 0, none⟩))], [], M, box b 53 [.int .i64 v.k, .int .i64 v.n, .string ⟨v.s.toArray⟩, .slice A v.l.length c] :: ([] ++ F)⟩) (fun y => y = !pureOk v) ?_ (fun y hy => ?_)
  · (((apply Tr.draw); (kernel_rfl)); (refine tkQ 0 (hB := by exact fun _ h => h) (s := by exact sfQ) (h := ?_)); (refine tkQ 1 (s := by exact slQ) (h := ?_)); (refine TrA.eff 2 rfl (by kernel_rfl) (by exact .inl rfl) ?_))
    refine Exec.call0 rfl (known_fn M v.k) rfl ?_
    rintro _ _ _ ⟨rfl, rfl⟩
    refine ⟨Mem.le.refl _, (by exact fun _ h => h), ?_⟩
    by_cases hkn : 1 ≤ v.k ∧ v.k ≤ 3
    rotate_left
    · rw [decide_eq_false hkn]
      ((refine tkQ 3 (s := by exact Stab.not rfl) (h := ?_)); (refine tkQ 4 (s := by exact Stab.move rfl) (h := ?_)); ((refine tuQ 5 (h := ?_))); ((refine tuQ 6 (h := ?_))); ((refine tuQ 7 (h := ?_))); ((refine tuQ 8 (h := ?_))); ((refine tuQ 9 (h := ?_))); ((refine tuQ 10 (h := ?_))); ((refine tuQ 11 (h := ?_))); ((refine tuQ 12 (h := ?_))); (refine tkQ 13 (s := by exact Stab.pick_t rfl (by (with_reducible exact Bool.not_false)) rfl) (h := ?_)); (refine TrA.done (by kernel_rfl) ?_))
      refine Tr.land _ ?_ hsQ
      have : pureOk v = false := by
        simp [pureOk, show ¬ v.k = 1 by omega, show ¬ v.k = 2 by omega, show ¬ v.k = 3 by omega]
      rw [this]; rfl
    rw [decide_eq_true hkn]
    by_cases h1 : v.k = 1
    · rw [h1]
      ((refine tkQ 3 (s := by exact Stab.not rfl) (h := ?_)); (refine tkQ 4 (s := by exact Stab.move rfl) (h := ?_)); ((refine tgQ 6 (q := (by (with_reducible exact Bool.not_true))) (s := by exact sfQ) (h := ?_))); ((refine tgQ 7 (q := (by (with_reducible exact Bool.not_true))) (s := by exact slQ) (h := ?_))); ((refine tgQ 10 (q := (by (with_reducible exact Bool.not_true))) (s := by exact swQ) (h := ?_))); (refine TrA.eff 5 rfl (by kernel_rfl) (by exact .inr ⟨_, _, _, rfl, rfl, rfl⟩) ?_))
      refine Exec.call0 rfl (kinds_fn M) rfl ?_
      rintro _ _ _ ⟨rfl, rfl⟩
      refine ⟨Mem.le.refl _, (by exact fun _ h => h), ?_⟩
      (((refine tgQ 8 (q := (by (with_reducible exact Bool.not_true))) (s := by exact Stab.indexVA rfl rfl (tysOk.get rfl) rfl (tysOk.get rfl) rfl (by omega) (by omega) rfl (by repeat (first | exact TakeL.z | apply TakeL.s))) (h := ?_))); ((refine tgQ 9 (q := (by (with_reducible exact Bool.not_true))) (s := by exact Stab.field rfl (tysOk.get rfl) rfl rfl (tysOk.get rfl) rfl rfl) (h := ?_))); (refine TrA.eff 11 rfl (by kernel_rfl) (by exact .inr ⟨_, _, _, rfl, rfl, rfl⟩) ?_))
      refine Exec.callv (A := []) (first := []) (cap := []) rfl rfl (pure1_fn M _ v (by rw [h1] at hR; exact hR)) (List.Perm.refl _) rfl ?_
      rintro _ _ _ - ⟨rfl, rfl, rfl⟩
      refine ⟨Mem.le.refl _, (by exact fun _ h => h), ?_⟩
      (((refine tgQ 12 (q := (by (with_reducible exact Bool.not_true))) (s := by exact Stab.not rfl) (h := ?_))); (refine tkQ 13 (s := by exact Stab.pick_f rfl (by (with_reducible exact Bool.not_true)) rfl) (h := ?_)); (refine TrA.done (by kernel_rfl) ?_))
      refine Tr.land _ ?_ hsQ
      simp [pureOk, h1]
    by_cases h2 : v.k = 2
    · rw [h2]
      ((refine tkQ 3 (s := by exact Stab.not rfl) (h := ?_)); (refine tkQ 4 (s := by exact Stab.move rfl) (h := ?_)); ((refine tgQ 6 (q := (by (with_reducible exact Bool.not_true))) (s := by exact sfQ) (h := ?_))); ((refine tgQ 7 (q := (by (with_reducible exact Bool.not_true))) (s := by exact slQ) (h := ?_))); ((refine tgQ 10 (q := (by (with_reducible exact Bool.not_true))) (s := by exact swQ) (h := ?_))); (refine TrA.eff 5 rfl (by kernel_rfl) (by exact .inr ⟨_, _, _, rfl, rfl, rfl⟩) ?_))
      refine Exec.call0 rfl (kinds_fn M) rfl ?_
      rintro _ _ _ ⟨rfl, rfl⟩
      refine ⟨Mem.le.refl _, (by exact fun _ h => h), ?_⟩
      (((refine tgQ 8 (q := (by (with_reducible exact Bool.not_true))) (s := by exact Stab.indexVA rfl rfl (tysOk.get rfl) rfl (tysOk.get rfl) rfl (by omega) (by omega) rfl (by repeat (first | exact TakeL.z | apply TakeL.s))) (h := ?_))); ((refine tgQ 9 (q := (by (with_reducible exact Bool.not_true))) (s := by exact Stab.field rfl (tysOk.get rfl) rfl rfl (tysOk.get rfl) rfl rfl) (h := ?_))); (refine TrA.eff 11 rfl (by kernel_rfl) (by exact .inr ⟨_, _, _, rfl, rfl, rfl⟩) ?_))
      refine Exec.callv (A := []) (first := []) (cap := []) rfl rfl (pure2_fn M _ v (by rw [h2] at hR; exact hR)) (List.Perm.refl _) rfl ?_
      rintro _ _ _ - ⟨rfl, rfl, rfl⟩
      refine ⟨Mem.le.refl _, (by exact fun _ h => h), ?_⟩
      (((refine tgQ 12 (q := (by (with_reducible exact Bool.not_true))) (s := by exact Stab.not rfl) (h := ?_))); (refine tkQ 13 (s := by exact Stab.pick_f rfl (by (with_reducible exact Bool.not_true)) rfl) (h := ?_)); (refine TrA.done (by kernel_rfl) ?_))
      refine Tr.land _ ?_ hsQ
      simp [pureOk, h2]
    have h3 : v.k = 3 := by omega
    rw [h3]
    ((refine tkQ 3 (s := by exact Stab.not rfl) (h := ?_)); (refine tkQ 4 (s := by exact Stab.move rfl) (h := ?_)); ((refine tgQ 6 (q := (by (with_reducible exact Bool.not_true))) (s := by exact sfQ) (h := ?_))); ((refine tgQ 7 (q := (by (with_reducible exact Bool.not_true))) (s := by exact slQ) (h := ?_))); ((refine tgQ 10 (q := (by (with_reducible exact Bool.not_true))) (s := by exact swQ) (h := ?_))); (refine TrA.eff 5 rfl (by kernel_rfl) (by exact .inr ⟨_, _, _, rfl, rfl, rfl⟩) ?_))
    refine Exec.call0 rfl (kinds_fn M) rfl ?_
    rintro _ _ _ ⟨rfl, rfl⟩
    refine ⟨Mem.le.refl _, (by exact fun _ h => h), ?_⟩
    (((refine tgQ 8 (q := (by (with_reducible exact Bool.not_true))) (s := by exact Stab.indexVA rfl rfl (tysOk.get rfl) rfl (tysOk.get rfl) rfl (by omega) (by omega) rfl (by repeat (first | exact TakeL.z | apply TakeL.s))) (h := ?_))); ((refine tgQ 9 (q := (by (with_reducible exact Bool.not_true))) (s := by exact Stab.field rfl (tysOk.get rfl) rfl rfl (tysOk.get rfl) rfl rfl) (h := ?_))); (refine TrA.eff 11 rfl (by kernel_rfl) (by exact .inr ⟨_, _, _, rfl, rfl, rfl⟩) ?_))
    refine Exec.callv (A := []) (first := []) (cap := []) rfl rfl (pure3_fn M _ v (by rw [h3] at hR; exact hR)) (List.Perm.refl _) rfl ?_
    rintro _ _ _ - ⟨rfl, rfl, rfl⟩
    refine ⟨Mem.le.refl _, (by exact fun _ h => h), ?_⟩
    (((refine tgQ 12 (q := (by (with_reducible exact Bool.not_true))) (s := by exact Stab.not rfl) (h := ?_))); (refine tkQ 13 (s := by exact Stab.pick_f rfl (by (with_reducible exact Bool.not_true)) rfl) (h := ?_)); (refine TrA.done (by kernel_rfl) ?_))
    refine Tr.land _ ?_ hsQ
    simp [pureOk, h3]
  subst hy
  cases hp : pureOk v
  · repeat (first | ((with_reducible refine Tr.step rfl ?_); ((refine xaQ (z := ?_)))) | (with_reducible first | apply Tr.next | apply Tr.seq | apply Tr.region | apply Tr.nil | apply Tr.ret | apply Tr.then_ret) | (refine Tr.cond_bt rfl (by first | (with_reducible rfl) | (with_reducible exact Bool.not_false)) ?_))
    (refine dnQ (hL := by exact ⟨[_], rfl⟩) (k := ⟨rfl, ?_⟩))
    exact ⟨rfl, rfl⟩
  repeat (first | ((with_reducible refine Tr.step rfl ?_); (first | (refine xmQ (z := ?_)) | (refine xlQ (z := ?_)) | (refine xfQ (z := ?_)) | (refine xnQ (z := ?_)))) | (with_reducible first | apply Tr.next | apply Tr.seq | apply Tr.region | apply Tr.nil | apply Tr.skip | apply Tr.block) | (refine Tr.cond_bf rfl (by first | (with_reducible rfl) | (with_reducible exact Bool.not_true)) ?_))
  refine Tr.loop (α := Nat) (fun i => ⟨30, [(22, .int .i64 i), (21, .int .i64 v.l.length), (20, .slice A v.l.length c), (2, .bool false), (1, .pointer (some ⟨b, 0, none⟩))], [], M, box b 53 [.int .i64 v.k, .int .i64 v.n, .string ⟨v.s.toArray⟩, .slice A v.l.length c] :: ([] ++ F)⟩)
    (fun i => i ≤ v.l.length ∧ (v.l.take i).all formed = true) (fun i => v.l.length - i) 0 ⟨Nat.zero_le _, rfl⟩ hsQ (fun i hi => ?_)
  obtain ⟨hi, hall⟩ := hi
  by_cases hlt : i < v.l.length
  · obtain ⟨x, hx⟩ := get_of_lt hlt
    obtain ⟨hA1, ch, hat, hxv⟩ := hl.elem hx
    have hxl : x ∈ l := by rw [← hvl]; exact List.mem_of_getElem? hx
    obtain ⟨A1, c1, rfl, -⟩ := hxv.open_
    repeat (first | ((with_reducible refine Tr.step rfl ?_); (first | ((with_reducible refine Knd.load ?_); (first | (refine xwQ (z := ?_)) | (refine Exec.stab rfl (Stab.loadMA rfl (tysOk.get rfl) rfl (by assumption) rfl) rfl ?_))) | (refine xiQ (z := ?_)) | (refine xWQ (z := ?_)) | ((with_reducible refine Knd.alloc ?_); ((refine Exec.alloc (tysOk.get rfl) rfl rfl (fun b => ?_)))) | (refine xxQ (z := ?_)))) | (with_reducible first | apply Tr.next | apply Tr.seq | apply Tr.region | apply Tr.nil | apply Tr.skip | apply Tr.block) | (refine Tr.cond_t rfl (by first | (with_reducible assumption) | omega) ?_))
    ((refine Tr.step rfl ?_)); refine Exec.call0 rfl (ih x hxl _ ⟨_, rfl, hxv⟩) rfl ?_
    rintro _ _ _ ⟨rfl, rfl⟩
    cases hf : formed x
    · repeat (first | ((with_reducible refine Tr.step rfl ?_); (first | (refine xaQ (z := ?_)) | ((with_reducible refine Knd.unOp ?_); ((refine Exec.stab rfl (Stab.not rfl) rfl ?_))))) | (with_reducible first | apply Tr.next | apply Tr.seq | apply Tr.region | apply Tr.nil | apply Tr.ret | apply Tr.then_ret | apply Tr.in_ret) | (refine Tr.cond_bt rfl (by first | (with_reducible rfl) | (with_reducible exact Bool.not_false)) ?_))
      (refine dnQ (hL := by exact ⟨[_, _], rfl⟩) (k := ⟨rfl, ?_⟩))
      refine ⟨?_, rfl⟩
      have : v.l.all formed = false := by
        rw [List.all_eq_false]
        exact ⟨x, List.mem_of_getElem? hx, by simp [hf]⟩
      rw [this]; rfl
    · repeat (first | ((with_reducible refine Tr.step rfl ?_); (first | (refine xmQ (z := ?_)) | (refine xdQ (z := ?_)) | ((with_reducible refine Knd.unOp ?_); ((refine Exec.stab rfl (Stab.not rfl) rfl ?_))))) | (with_reducible first | apply Tr.next | apply Tr.region | apply Tr.nil | apply Tr.skip | apply Tr.in_normal) | (refine Tr.cond_bf rfl (by first | (with_reducible rfl) | (with_reducible exact Bool.not_true)) ?_))
      refine Tr.again (i + 1) ⟨by omega, ?_⟩ (by omega) hsQ
      rw [List.take_add_one, hx, List.all_append, hall]
      simp [hf]
  · have e : i = v.l.length := by omega
    subst e
    rw [List.take_length] at hall
    repeat (first | ((with_reducible refine Tr.step rfl ?_); (first | (refine xaQ (z := ?_)) | (refine xiQ (z := ?_)))) | (with_reducible first | apply Tr.next | apply Tr.seq | apply Tr.region | apply Tr.nil | apply Tr.exit | apply Tr.ret | apply Tr.then_exit) | ((with_reducible refine Tr.in_exit ?_ ?_); (exact rfl)) | (refine Tr.cond_f rfl (by first | (with_reducible assumption) | omega) ?_))
    (refine dnQ (hL := by exact ⟨[_], rfl⟩) (k := ⟨rfl, ?_⟩))
    exact ⟨by rw [hall]; rfl, rfl⟩

theorem depthL_le {l : List Val} {x : Val} (h : x ∈ l) : depth x ≤ depthL l := by
  induction l with
  | nil => cases h
  | cons y l ih =>
    rw [depthL]
    rcases List.mem_cons.1 h with rfl | h
    · omega
    · have := ih h; omega
theorem depthL_take {l : List Val} {x : Val} {i : Nat} (h : l[i]? = some x) : depthL (l.take (i + 1)) = max (depthL (l.take i)) (depth x) := by
  have key : ∀ (a b : List Val), depthL (a ++ b) = max (depthL a) (depthL b) := by
    intro a b
    induction a with
    | nil => simp [depthL]
    | cons y a ih => rw [List.cons_append, depthL, depthL, ih]; omega
  rw [List.take_add_one, h, key]
  simp [depthL]
theorem depth_list {v : Val} (h : v.k = 3) : depth v = depthL v.l + 1 := by
  cases v with
  | mk k n s l =>
    have h : k = 3 := h
    rw [depth, if_pos h]; rfl
theorem depth_leaf {v : Val} (h : v.k ≠ 3) : depth v = 0 := by
  cases v with
  | mk k n s l =>
    have h : k ≠ 3 := h
    rw [depth, if_neg h]
set_option maxHeartbeats 2000000 in
theorem depth_fn (M : Mem) : ∀ (v : Val) (r : Value), RV M r v → depth v ≤ 1000000 → Fn0 Tryz.prog 73 [r] M (fun r M' => r = .int .i64 (depth v : Int) ∧ M = M') := by
  intro v
  induction v using Val.ind with
  | h k n s l ih =>
  intro r hr
  generalize hv : Val.mk k n s l = v at hr ⊢
  have hvl : v.l = l := by rw [← hv]; rfl
  intro hd
  obtain ⟨A, c, rfl, hR, hl, hk, -⟩ := hr.open_
  have hll := hl.len_le
  refine Fn.intro Tryz.func73 rfl rfl Tryz.ntmps73 rfl fun E F => ?_
  by_cases h3 : v.k = 3
  rotate_left
  · repeat (first | ((with_reducible refine Tr.step rfl ?_); (first | (refine xaQ (z := ?_)) | (refine xlQ (z := ?_)) | (refine xfQ (z := ?_)) | (refine xiQ (z := ?_)) | ((with_reducible refine Knd.box ?_); ((refine Exec.box rfl rfl (fun b => ?_)))))) | (with_reducible first | apply Tr.next | apply Tr.seq | apply Tr.region | apply Tr.nil | apply Tr.ret | apply Tr.then_ret) | (refine Tr.cond_t rfl (by first | (with_reducible assumption) | omega) ?_))
    (refine dnQ (hL := by exact ⟨[_], rfl⟩) (k := ⟨rfl, ?_⟩))
    exact ⟨by rw [depth_leaf h3]; rfl, rfl⟩
  rw [depth_list h3] at hd ⊢
  repeat (first | ((with_reducible refine Tr.step rfl ?_); (first | (refine xmQ (z := ?_)) | (refine xaQ (z := ?_)) | (refine xlQ (z := ?_)) | (refine xfQ (z := ?_)) | (refine xnQ (z := ?_)) | (refine xiQ (z := ?_)) | ((with_reducible refine Knd.box ?_); ((refine Exec.box rfl rfl (fun b => ?_)))))) | (with_reducible first | apply Tr.next | apply Tr.seq | apply Tr.region | apply Tr.nil | apply Tr.skip | apply Tr.block) | (refine Tr.cond_f rfl (by first | (with_reducible assumption) | omega) ?_))
  refine Tr.loop (α := Nat) (fun i => ⟨23, [(12, .int .i64 i), (11, .int .i64 v.l.length), (10, .slice A v.l.length c), (3, .int .i64 (depthL (v.l.take i) : Nat)), (2, .int .i64 0)], [], M, _⟩) (fun i => i ≤ v.l.length) (fun i => v.l.length - i) 0 (Nat.zero_le _) hsQ (fun i hi => ?_)
  by_cases hlt : i < v.l.length
  · obtain ⟨x, hx⟩ := get_of_lt hlt
    obtain ⟨hA1, ch, hat, hxv⟩ := hl.elem hx
    have hxl : x ∈ l := by rw [← hvl]; exact List.mem_of_getElem? hx
    have hxd := depthL_le (List.mem_of_getElem? hx)
    obtain ⟨A1, c1, rfl, -⟩ := hxv.open_
    repeat (first | ((with_reducible refine Tr.step rfl ?_); (first | (refine xmQ (z := ?_)) | ((with_reducible refine Knd.load ?_); (first | (refine xwQ (z := ?_)) | (refine Exec.stab rfl (Stab.loadMA rfl (tysOk.get rfl) rfl (by assumption) rfl) rfl ?_))) | (refine xiQ (z := ?_)) | (refine xWQ (z := ?_)) | ((with_reducible refine Knd.alloc ?_); ((refine Exec.alloc (tysOk.get rfl) rfl rfl (fun b => ?_)))) | (refine xxQ (z := ?_)))) | (with_reducible first | apply Tr.next | apply Tr.seq | apply Tr.region | apply Tr.nil | apply Tr.skip | apply Tr.block) | (refine Tr.cond_t rfl (by first | (with_reducible assumption) | omega) ?_))
    ((refine Tr.step rfl ?_)); refine Exec.call0 rfl (ih x hxl _ ⟨_, rfl, hxv⟩ (by omega)) rfl ?_
    rintro _ _ _ ⟨rfl, rfl⟩
    repeat (first | ((with_reducible refine Tr.step rfl ?_); (first | (refine xmQ (z := ?_)) | (refine xaQ (z := ?_)) | ((with_reducible refine Knd.max ?_); (refine Exec.stab rfl (Stab.max2 rfl rfl) rfl ?_)) | (refine xdQ (z := ?_)))) | (with_reducible first | apply Tr.next | apply Tr.region | apply Tr.nil | apply Tr.in_normal))
    have e : max (depthL (v.l.take i) : Int) (depth x : Int) = ((depthL (v.l.take (i + 1)) : Nat) : Int) := by rw [depthL_take hx]; omega
    rw [e]
    refine Tr.again (i + 1) (by omega) (by omega) hsQ
  · have e : i = v.l.length := by omega
    subst e
    rw [List.take_length]
    repeat (first | ((with_reducible refine Tr.step rfl ?_); (first | (refine xmQ (z := ?_)) | (refine xaQ (z := ?_)) | ((with_reducible refine Knd.binOp ?_); (first | (refine xdQ (z := ?_)) | (refine xiQ (z := ?_)))))) | (with_reducible first | apply Tr.next | apply Tr.seq | apply Tr.region | apply Tr.nil | apply Tr.exit | apply Tr.ret | apply Tr.then_exit) | ((with_reducible refine Tr.in_exit ?_ ?_); (exact rfl)) | (refine Tr.cond_f rfl (by first | (with_reducible assumption) | omega) ?_))
    (refine dnQ (hL := by exact ⟨[_], rfl⟩) (k := ⟨rfl, ?_⟩))
    exact ⟨by show Value.int .i64 (1 + (depthL v.l : Int)) = _; congr 1; omega, rfl⟩
set_option maxHeartbeats 2000000 in
theorem rdepth_fn (M : Mem) : ∀ (v : Val) (r : Value), RV M r v → depth v ≤ 1000000 → Fn0 Tryz.prog 93 [r] M (fun r M' => r = .int .i64 (depth v : Int) ∧ M = M') := by
  intro v
  induction v using Val.ind with
  | h k n s l ih =>
  intro r hr
  generalize hv : Val.mk k n s l = v at hr ⊢
  have hvl : v.l = l := by rw [← hv]; rfl
  intro hd
  obtain ⟨A, c, rfl, hR, hl, hk, -⟩ := hr.open_
  have hll := hl.len_le
  refine Fn.intro Tryz.func93 rfl rfl Tryz.ntmps93 rfl fun E F => ?_
  by_cases h3 : v.k = 3
  rotate_left
  · repeat (first | ((with_reducible refine Tr.step rfl ?_); (first | (refine xaQ (z := ?_)) | (refine xlQ (z := ?_)) | (refine xfQ (z := ?_)) | (refine xiQ (z := ?_)) | ((with_reducible refine Knd.box ?_); ((refine Exec.box rfl rfl (fun b => ?_)))))) | (with_reducible first | apply Tr.next | apply Tr.seq | apply Tr.region | apply Tr.nil | apply Tr.ret | apply Tr.then_ret) | (refine Tr.cond_t rfl (by first | (with_reducible assumption) | omega) ?_))
    (refine dnQ (hL := by exact ⟨[_], rfl⟩) (k := ⟨rfl, ?_⟩))
    exact ⟨by rw [depth_leaf h3]; rfl, rfl⟩
  rw [depth_list h3] at hd ⊢
  repeat (first | ((with_reducible refine Tr.step rfl ?_); (first | (refine xaQ (z := ?_)) | (refine xlQ (z := ?_)) | (refine xfQ (z := ?_)) | (refine xiQ (z := ?_)) | ((with_reducible refine Knd.box ?_); ((refine Exec.box rfl rfl (fun b => ?_)))))) | (with_reducible first | apply Tr.next | apply Tr.seq | apply Tr.region | apply Tr.nil | apply Tr.skip | apply Tr.block) | (refine Tr.cond_f rfl (by first | (with_reducible assumption) | omega) ?_))
  refine Tr.loop (α := Nat) (fun i => ⟨25, [(4, .int .i64 i), (3, .int .i64 (depthL (v.l.take i) : Nat)), (2, .int .i64 0), (1, .pointer (some ⟨_, 0, none⟩))], [], M, _⟩) (fun i => i ≤ v.l.length) (fun i => v.l.length - i) 0 (Nat.zero_le _) hsQ (fun i hi => ?_)
  by_cases hlt : i < v.l.length
  · obtain ⟨x, hx⟩ := get_of_lt hlt
    obtain ⟨hA1, ch, hat, hxv⟩ := hl.elem hx
    have hxl : x ∈ l := by rw [← hvl]; exact List.mem_of_getElem? hx
    have hxd := depthL_le (List.mem_of_getElem? hx)
    obtain ⟨A1, c1, rfl, -⟩ := hxv.open_
    repeat (first | ((with_reducible refine Tr.step rfl ?_); (first | (refine xmQ (z := ?_)) | ((with_reducible refine Knd.load ?_); (first | (refine xlQ (z := ?_)) | (refine Exec.stab rfl (Stab.loadMA rfl (tysOk.get rfl) rfl (by assumption) rfl) rfl ?_))) | (refine xfQ (z := ?_)) | (refine xnQ (z := ?_)) | (refine xiQ (z := ?_)) | (refine xxQ (z := ?_)))) | (with_reducible first | apply Tr.next | apply Tr.seq | apply Tr.region | apply Tr.nil | apply Tr.skip | apply Tr.block) | (refine Tr.cond_t rfl (by first | (with_reducible assumption) | omega) ?_))
    ((refine Tr.step rfl ?_)); refine Exec.call0 rfl (ih x hxl _ ⟨_, rfl, hxv⟩ (by omega)) rfl ?_
    rintro _ _ _ ⟨rfl, rfl⟩
    repeat (first | ((with_reducible refine Tr.step rfl ?_); (first | (refine xmQ (z := ?_)) | (refine xaQ (z := ?_)) | ((with_reducible refine Knd.max ?_); (refine Exec.stab rfl (Stab.max2 rfl rfl) rfl ?_)) | (refine xdQ (z := ?_)))) | (with_reducible first | apply Tr.next | apply Tr.region | apply Tr.nil | apply Tr.in_normal))
    have e : max (depthL (v.l.take i) : Int) (depth x : Int) = ((depthL (v.l.take (i + 1)) : Nat) : Int) := by rw [depthL_take hx]; omega
    rw [e]
    refine Tr.again (i + 1) (by omega) (by omega) hsQ
  · have e : i = v.l.length := by omega
    subst e
    rw [List.take_length]
    repeat (first | ((with_reducible refine Tr.step rfl ?_); (first | (refine xmQ (z := ?_)) | (refine xaQ (z := ?_)) | (refine xlQ (z := ?_)) | (refine xfQ (z := ?_)) | (refine xnQ (z := ?_)) | ((with_reducible refine Knd.binOp ?_); (first | (refine xdQ (z := ?_)) | (refine xiQ (z := ?_)))))) | (with_reducible first | apply Tr.next | apply Tr.seq | apply Tr.region | apply Tr.nil | apply Tr.exit | apply Tr.ret | apply Tr.then_exit) | ((with_reducible refine Tr.in_exit ?_ ?_); (exact rfl)) | (refine Tr.cond_f rfl (by first | (with_reducible assumption) | omega) ?_))
    (refine dnQ (hL := by exact ⟨[_], rfl⟩) (k := ⟨rfl, ?_⟩))
    exact ⟨by show Value.int .i64 ((depthL v.l : Int) + 1) = _; congr 1, rfl⟩

def chk (v : Val) : Int := if formed v = true then (if depth v ≤ 16 then 0 else 2) else 1
set_option maxHeartbeats 1000000 in
theorem check_fn (M : Mem) (v : Val) (r : Value) (h : RV M r v) (hd : depth v ≤ 1000000) : Fn0 Tryz.prog 41 [r] M (fun r M' => r = .int .i64 (chk v) ∧ M = M') := by
  obtain ⟨A, c, rfl, hR, -⟩ := h.open_
  refine Fn.intro Tryz.func41 rfl rfl Tryz.ntmps41 rfl fun E F => ?_
  repeat (first | ((with_reducible refine Tr.step rfl ?_); (first | (refine xaQ (z := ?_)) | (refine xwQ (z := ?_)) | ((with_reducible refine Knd.box ?_); ((refine Exec.box rfl rfl (fun b => ?_)))))) | (with_reducible first | apply Tr.next | apply Tr.seq | apply Tr.region | apply Tr.nil))
  ((refine Tr.step rfl ?_)); refine Exec.call0 rfl (formed_fn M v _ hR) rfl ?_
  rintro _ _ _ ⟨rfl, rfl⟩
  unfold chk
  cases hf : formed v
  · repeat (first | ((with_reducible refine Tr.step rfl ?_); (first | (refine xaQ (z := ?_)) | ((with_reducible refine Knd.unOp ?_); ((refine Exec.stab rfl (Stab.not rfl) rfl ?_))))) | (with_reducible first | apply Tr.next | apply Tr.seq | apply Tr.region | apply Tr.nil | apply Tr.ret | apply Tr.then_ret) | (refine Tr.cond_bt rfl (by first | (with_reducible rfl) | (with_reducible exact Bool.not_false)) ?_))
    (refine dnQ (hL := by exact ⟨[_], rfl⟩) (k := ⟨rfl, ?_⟩))
    exact ⟨rfl, rfl⟩
  repeat (first | ((with_reducible refine Tr.step rfl ?_); (first | (refine xwQ (z := ?_)) | ((with_reducible refine Knd.unOp ?_); ((refine Exec.stab rfl (Stab.not rfl) rfl ?_))))) | (with_reducible first | apply Tr.next | apply Tr.seq | apply Tr.region | apply Tr.nil | apply Tr.skip) | (refine Tr.cond_bf rfl (by first | (with_reducible rfl) | (with_reducible exact Bool.not_true)) ?_))
  ((refine Tr.step rfl ?_)); refine Exec.call0 rfl (depth_fn M v _ hR hd) rfl ?_
  rintro _ _ _ ⟨rfl, rfl⟩
  by_cases h16 : depth v ≤ 16
  · repeat (first | ((with_reducible refine Tr.step rfl ?_); (first | (refine xaQ (z := ?_)) | (refine xiQ (z := ?_)))) | (with_reducible first | apply Tr.next | apply Tr.seq | apply Tr.region | apply Tr.nil | apply Tr.skip | apply Tr.ret) | (refine Tr.cond_f rfl (by first | (with_reducible assumption) | omega) ?_))
    (refine dnQ (hL := by exact ⟨[_], rfl⟩) (k := ⟨rfl, ?_⟩))
    exact ⟨by rw [if_pos h16]; rfl, rfl⟩
  · repeat (first | ((with_reducible refine Tr.step rfl ?_); (first | (refine xaQ (z := ?_)) | (refine xiQ (z := ?_)))) | (with_reducible first | apply Tr.next | apply Tr.seq | apply Tr.region | apply Tr.nil | apply Tr.ret | apply Tr.then_ret) | (refine Tr.cond_t rfl (by first | (with_reducible assumption) | omega) ?_))
    (refine dnQ (hL := by exact ⟨[_], rfl⟩) (k := ⟨rfl, ?_⟩))
    exact ⟨by rw [if_neg h16]; rfl, rfl⟩
end Go.Proofs.YtghjhdbmkilakaaGreatDoor

/-
  The codec: equality and sizes; the contracts of Same and Size.
  Conditions: none.
-/
namespace Go.Proofs.YtghjhdbmkilakaaGreatDoor
open Go Bf
attribute [local irreducible] Tr Exec Stab HasTy Go.Addr.add IntKind.wrap
mutual
def enc : Val → List UInt8
  | .mk k n s l => if k = 1 then 1 :: num (zz n) else if k = 2 then 2 :: (num s.length ++ s) else if k = 3 then 3 :: (num l.length ++ encL l) else []
def encL : List Val → List UInt8
  | [] => []
  | x :: l => enc x ++ encL l
end
theorem enc1 {v : Val} (h : v.k = 1) : enc v = 1 :: num (zz v.n) := by
  cases v with
  | mk k n s l => have h : k = 1 := h; rw [enc, if_pos h]; rfl
theorem enc2 {v : Val} (h : v.k = 2) : enc v = 2 :: (num v.s.length ++ v.s) := by
  cases v with
  | mk k n s l => have h : k = 2 := h; rw [enc, if_neg (by omega), if_pos h]; rfl
theorem enc3 {v : Val} (h : v.k = 3) : enc v = 3 :: (num v.l.length ++ encL v.l) := by
  cases v with
  | mk k n s l => have h : k = 3 := h; rw [enc, if_neg (by omega), if_neg (by omega), if_pos h]; rfl
theorem encL_append (a b : List Val) : encL (a ++ b) = encL a ++ encL b := by
  induction a with
  | nil => rfl
  | cons x a ih => rw [List.cons_append, encL, encL, ih, List.append_assoc]
theorem encL_take {l : List Val} {x : Val} {i : Nat} (h : l[i]? = some x) : encL (l.take (i + 1)) = encL (l.take i) ++ enc x := by
  rw [List.take_add_one, h, encL_append]
  simp [encL]
theorem encL_take_le (l : List Val) (i : Nat) : (encL (l.take i)).length ≤ (encL l).length := by
  have : encL l = encL (l.take i) ++ encL (l.drop i) := by rw [← encL_append, List.take_append_drop]
  rw [this]; simp
theorem enc_mem {l : List Val} {x : Val} (h : x ∈ l) : (enc x).length ≤ (encL l).length := by
  induction l with
  | nil => cases h
  | cons y l ih =>
    rw [encL, List.length_append]
    rcases List.mem_cons.1 h with rfl | h
    · omega
    · have := ih h; omega
theorem formed_k {v : Val} (h : formed v = true) : v.k = 1 ∨ v.k = 2 ∨ v.k = 3 := by
  rw [formed_eq, Bool.and_eq_true] at h
  have := h.1
  simp only [pureOk, Bool.or_eq_true, Bool.and_eq_true, decide_eq_true_eq] at this
  omega
theorem formed_mem {v x : Val} (h : formed v = true) (hx : x ∈ v.l) : formed x = true := by
  rw [formed_eq, Bool.and_eq_true] at h
  exact List.all_eq_true.1 h.2 x hx
end Go.Proofs.YtghjhdbmkilakaaGreatDoor

/-
  The codec: writing; the contracts of Encode's functions.
  Conditions: none.
-/
namespace Go.Proofs.YtghjhdbmkilakaaGreatDoor
open Go Bf
attribute [local irreducible] Tr Exec Stab HasTy Go.Addr.add IntKind.wrap
/-- the function that writes a kind -/
def wrf (k : Int) : Nat := if k = 1 then 78 else if k = 2 then 83 else 87
set_option maxHeartbeats 4000000 in
theorem write_k (M : Mem) : ∀ (v : Val) (r : Value), RV M r v → formed v = true → ∀ (A : Option Addr) (c : Nat) (bs : List UInt8), c ≤ 9223372036854775807 → bs.length + (enc v).length ≤ 1000000000000 →
    Bf.Fn Tryz.prog (wrf v.k) [.slice A bs.length c, r] M [ownS 5 1 A bs.length c (byteV bs)] (fun r M' A' => M = M' ∧ OwnB (bs ++ enc v) r A') := by
  intro v
  induction v using Val.ind with
  | h k n s l ih =>
  intro r hr
  generalize hv : Val.mk k n s l = v at hr ⊢
  have hvl : v.l = l := by rw [← hv]; rfl
  intro hf AA cc bs hcc hlen
  obtain ⟨A, c, rfl, hR, hl, hk, hn, hs⟩ := hr.open_
  have hll := hl.len_le
  rcases formed_k hf with h1 | h2 | h3
  · rw [enc1 h1] at hlen
    rw [show wrf v.k = 78 by rw [h1]; rfl, enc1 h1]
    have hz := zz_lt hn
    have hbl : bs.length + 1 ≤ 1000000000000 := by simp at hlen; omega
    refine Fn.intro Tryz.func78 rfl rfl Tryz.ntmps78 rfl fun E F => ?_
    repeat (first | ((with_reducible refine Tr.step rfl ?_); (first | (refine xaQ (z := ?_)) | ((with_reducible refine Knd.box ?_); ((refine Exec.box rfl rfl (fun b => ?_)))))) | (with_reducible first | apply Tr.next | apply Tr.seq | apply Tr.region | apply Tr.nil))
    refine Tr.perm (List.Perm.swap _ _ _) ?_
    (((apply Tr.draw (box _ 53 [.int .i64 v.k, .int .i64 v.n, .string ⟨v.s.toArray⟩, .slice A v.l.length c] :: _)); (kernel_rfl)); (refine tkQ 0 (hB := by exact (Sub.mem (by repeat (first | exact Sub.refl | apply Sub.cons)))) (s := by exact Stab.move rfl) (h := ?_)); (refine tkQ 3 (s := by exact sfQ) (h := ?_)); (refine tkQ 4 (s := by exact slQ) (h := ?_)); (refine TrA.eff 1 rfl (by kernel_rfl) (by exact .inl rfl) ?_); (((refine Knd.buildSlice ?_); (refine Exec.buildSlice (tysOk.get rfl) rfl (tysOk.get rfl) rfl rfl rfl rfl rfl (by repeat (first | exact BuildP.nil | ((apply BuildP.one); (rfl); (rfl); (first | rfl | assumption); (repeat (first | exact SetL.z | apply SetL.s))))) rfl (fun b => ?_)))); (refine ⟨(by first | exact Mem.le.refl _ | assumption), (by exact (Sub.mem (by repeat (first | exact Sub.refl | apply Sub.cons)))), ?_⟩))
    refine TrA.via (fun X h => Tr.cells (cs' := byteV [1]) (by repeat (first | exact Upd.here | apply Upd.there)) rfl h) ?_
    ((refine TrA.eff 2 rfl (by kernel_rfl) (by exact .inl rfl) ?_))
    refine Exec.append (news := byteV [1]) rfl rfl (tysOk.get rfl) rfl (tysOk.get rfl) rfl rfl rfl rfl (by repeat (first | exact Del.here | apply Del.there)) (Src.box (by repeat (first | exact Has.here | apply Has.there))) (by simp) (byteV_one _) (by omega) (by omega) rfl (fun A2 c2 hc2 => ?_)
    refine ⟨Mem.le.refl _, (by exact (Sub.mem (by repeat (first | exact Sub.refl | apply Sub.cons)))), ?_⟩
    rw [← byteV_append, show bs.length + 1 = (bs ++ [1]).length by simp]
    ((refine TrA.eff 5 rfl (by kernel_rfl) (by exact .inl rfl) ?_))
    refine Exec.call0 rfl (unsigned_fn M v.n hn) rfl ?_
    rintro _ _ _ ⟨rfl, rfl⟩
    refine ⟨Mem.le.refl _, (by exact (Sub.mem (by repeat (first | exact Sub.refl | apply Sub.cons)))), ?_⟩
    ((refine TrA.eff 6 rfl (by kernel_rfl) (by exact .inl rfl) ?_))
    refine Exec.call (A := [ownS 5 1 A2 (bs ++ [1]).length c2 (byteV (bs ++ [1]))]) rfl (numeral_fn M A2 c2 (bs ++ [1]) (zz v.n) hz hc2 (by simp; omega)) (List.Perm.refl _) rfl ?_
    rintro _ _ _ - ⟨rfl, A3, c3, rfl, hc3, rfl⟩
    refine ⟨Mem.le.refl _, (by exact (Sub.mem (by repeat (first | exact Sub.refl | apply Sub.cons)))), ?_⟩
    ((refine tkQ 7 (s := by exact Stab.assign rfl) (h := ?_)); (refine TrA.done (by kernel_rfl) ?_))
    rw [show bs ++ [1] ++ num (zz v.n) = bs ++ (1 :: num (zz v.n)) by simp]
    repeat (first | (with_reducible first | apply Tr.next | apply Tr.ret))
    refine Tr.doneB [_, _] (by first | exact .inl rfl | exact .inr rfl) rfl (by repeat (first | exact RVs.nil | (apply RVs.cons; (exact RV.tmp rfl)))) (Mem.le.refl _) ((List.Perm.swap _ _ _).trans ((List.Perm.swap _ _ _).cons _)) ⟨rfl, A3, c3, rfl, hc3, rfl⟩
  · rw [enc2 h2] at hlen
    rw [show wrf v.k = 83 by rw [h2]; rfl, enc2 h2]
    have hsl : v.s.length ≤ 1000000000000 := by simp at hlen; omega
    have hbl : bs.length + 1 + (num v.s.length).length + v.s.length ≤ 1000000000000 := by simp at hlen; omega
    have hz : v.s.length < 2 ^ 64 := by omega
    refine Fn.intro Tryz.func83 rfl rfl Tryz.ntmps83 rfl fun E F => ?_
    repeat (first | ((with_reducible refine Tr.step rfl ?_); (first | (refine xaQ (z := ?_)) | ((with_reducible refine Knd.box ?_); ((refine Exec.box rfl rfl (fun b => ?_)))))) | (with_reducible first | apply Tr.next | apply Tr.seq | apply Tr.region | apply Tr.nil))
    refine Tr.perm (List.Perm.swap _ _ _) ?_
    (((apply Tr.draw (box _ 53 [.int .i64 v.k, .int .i64 v.n, .string ⟨v.s.toArray⟩, .slice A v.l.length c] :: _)); (kernel_rfl)); (refine tkQ 0 (hB := by exact (Sub.mem (by repeat (first | exact Sub.refl | apply Sub.cons)))) (s := by exact Stab.move rfl) (h := ?_)); (refine tkQ 3 (s := by exact sfQ) (h := ?_)); (refine tkQ 4 (s := by exact slQ) (h := ?_)); (refine tkQ 5 (s := by exact Stab.lensL rfl (tysOk.get rfl) rfl) (h := ?_)); (refine tkQ 6 (s := by exact Stab.convu64 rfl (tysOk.get rfl) (tysOk.get rfl) rfl rfl (by omega)) (h := ?_)); (refine TrA.eff 1 rfl (by kernel_rfl) (by exact .inl rfl) ?_); (((refine Knd.buildSlice ?_); (refine Exec.buildSlice (tysOk.get rfl) rfl (tysOk.get rfl) rfl rfl rfl rfl rfl (by repeat (first | exact BuildP.nil | ((apply BuildP.one); (rfl); (rfl); (first | rfl | assumption); (repeat (first | exact SetL.z | apply SetL.s))))) rfl (fun b => ?_)))); (refine ⟨(by first | exact Mem.le.refl _ | assumption), (by exact (Sub.mem (by repeat (first | exact Sub.refl | apply Sub.cons)))), ?_⟩))
    refine TrA.via (fun X h => Tr.cells (cs' := byteV [2]) (by repeat (first | exact Upd.here | apply Upd.there)) rfl h) ?_
    ((refine TrA.eff 2 rfl (by kernel_rfl) (by exact .inl rfl) ?_))
    refine Exec.append (news := byteV [2]) rfl rfl (tysOk.get rfl) rfl (tysOk.get rfl) rfl rfl rfl rfl (by repeat (first | exact Del.here | apply Del.there)) (Src.box (by repeat (first | exact Has.here | apply Has.there))) (by simp) (byteV_one _) (by omega) (by omega) rfl (fun A2 c2 hc2 => ?_)
    refine ⟨Mem.le.refl _, (by exact (Sub.mem (by repeat (first | exact Sub.refl | apply Sub.cons)))), ?_⟩
    rw [← byteV_append, show bs.length + 1 = (bs ++ [2]).length by simp]
    ((refine TrA.eff 7 rfl (by kernel_rfl) (by exact .inl rfl) ?_))
    refine Exec.call (A := [ownS 5 1 A2 (bs ++ [2]).length c2 (byteV (bs ++ [2]))]) rfl (numeral_fn M A2 c2 (bs ++ [2]) v.s.length hz hc2 (by simp; omega)) (List.Perm.refl _) rfl ?_
    rintro _ _ _ - ⟨rfl, A3, c3, rfl, hc3, rfl⟩
    refine ⟨Mem.le.refl _, (by exact (Sub.mem (by repeat (first | exact Sub.refl | apply Sub.cons)))), ?_⟩
    ((refine tkQ 8 (s := by exact Stab.assign rfl) (h := ?_)); (refine TrA.done (by kernel_rfl) ?_))
    repeat (first | ((with_reducible refine Tr.step rfl ?_); (first | (refine xmQ (z := ?_)) | (refine xlQ (z := ?_)) | (refine xfQ (z := ?_)))) | (with_reducible first | apply Tr.next | apply Tr.seq | apply Tr.region))
    ((refine Tr.step rfl ?_))
    refine Exec.appendStr (l := v.s) rfl rfl (tysOk.get rfl) rfl (tysOk.get rfl) rfl (tysOk.get rfl) rfl rfl rfl (by repeat (first | exact Del.here | apply Del.there)) (by simp; omega) rfl (fun A4 c4 hc4 => ?_)
    have e1 : (bs ++ [2] ++ num v.s.length).length + v.s.length = (bs ++ (2 :: (num v.s.length ++ v.s))).length := by simp; omega
    have e2 : bs ++ [2] ++ num v.s.length ++ v.s = bs ++ (2 :: (num v.s.length ++ v.s)) := by simp
    rw [← byteV_append, e1, e2]
    repeat (first | ((with_reducible refine Tr.step rfl ?_); ((refine xaQ (z := ?_)))) | (with_reducible first | apply Tr.next | apply Tr.nil | apply Tr.ret))
    refine Tr.doneB [_, _] (by first | exact .inl rfl | exact .inr rfl) rfl (by repeat (first | exact RVs.nil | (apply RVs.cons; (exact RV.tmp rfl)))) (Mem.le.refl _) ((List.Perm.swap _ _ _).trans ((List.Perm.swap _ _ _).cons _)) ⟨rfl, A4, c4, rfl, hc4, rfl⟩
  · rw [enc3 h3] at hlen
    rw [show wrf v.k = 87 by rw [h3]; rfl, enc3 h3]
    have hbl : bs.length + 1 + (num v.l.length).length + (encL v.l).length ≤ 1000000000000 := by simp at hlen; omega
    have hll2 : v.l.length < 2 ^ 64 := by omega
    refine Fn.intro Tryz.func87 rfl rfl Tryz.ntmps87 rfl fun E F => ?_
    repeat (first | ((with_reducible refine Tr.step rfl ?_); (first | (refine xaQ (z := ?_)) | ((with_reducible refine Knd.box ?_); ((refine Exec.box rfl rfl (fun b => ?_)))))) | (with_reducible first | apply Tr.next | apply Tr.seq | apply Tr.region | apply Tr.nil))
    refine Tr.perm (List.Perm.swap _ _ _) ?_
    (((apply Tr.draw (box _ 53 [.int .i64 v.k, .int .i64 v.n, .string ⟨v.s.toArray⟩, .slice A v.l.length c] :: _)); (kernel_rfl)); (refine tkQ 0 (hB := by exact (Sub.mem (by repeat (first | exact Sub.refl | apply Sub.cons)))) (s := by exact Stab.move rfl) (h := ?_)); (refine tkQ 3 (s := by exact sfQ) (h := ?_)); (refine tkQ 4 (s := by exact slQ) (h := ?_)); (refine tkQ 5 (s := by exact snQ) (h := ?_)); (refine tkQ 6 (s := by exact Stab.convu64 rfl (tysOk.get rfl) (tysOk.get rfl) rfl rfl (by omega)) (h := ?_)); (refine TrA.eff 1 rfl (by kernel_rfl) (by exact .inl rfl) ?_); (((refine Knd.buildSlice ?_); (refine Exec.buildSlice (tysOk.get rfl) rfl (tysOk.get rfl) rfl rfl rfl rfl rfl (by repeat (first | exact BuildP.nil | ((apply BuildP.one); (rfl); (rfl); (first | rfl | assumption); (repeat (first | exact SetL.z | apply SetL.s))))) rfl (fun b => ?_)))); (refine ⟨(by first | exact Mem.le.refl _ | assumption), (by exact (Sub.mem (by repeat (first | exact Sub.refl | apply Sub.cons)))), ?_⟩))
    refine TrA.via (fun X h => Tr.cells (cs' := byteV [3]) (by repeat (first | exact Upd.here | apply Upd.there)) rfl h) ?_
    ((refine TrA.eff 2 rfl (by kernel_rfl) (by exact .inl rfl) ?_))
    refine Exec.append (news := byteV [3]) rfl rfl (tysOk.get rfl) rfl (tysOk.get rfl) rfl rfl rfl rfl (by repeat (first | exact Del.here | apply Del.there)) (Src.box (by repeat (first | exact Has.here | apply Has.there))) (by simp) (byteV_one _) (by omega) (by omega) rfl (fun A2 c2 hc2 => ?_)
    refine ⟨Mem.le.refl _, (by exact (Sub.mem (by repeat (first | exact Sub.refl | apply Sub.cons)))), ?_⟩
    rw [← byteV_append, show bs.length + 1 = (bs ++ [3]).length by simp]
    ((refine TrA.eff 7 rfl (by kernel_rfl) (by exact .inl rfl) ?_))
    refine Exec.call (A := [ownS 5 1 A2 (bs ++ [3]).length c2 (byteV (bs ++ [3]))]) rfl (numeral_fn M A2 c2 (bs ++ [3]) v.l.length hll2 hc2 (by simp; omega)) (List.Perm.refl _) rfl ?_
    rintro _ _ _ - ⟨rfl, A3, c3, rfl, hc3, rfl⟩
    refine ⟨Mem.le.refl _, (by exact (Sub.mem (by repeat (first | exact Sub.refl | apply Sub.cons)))), ?_⟩
    ((refine tkQ 8 (s := by exact Stab.assign rfl) (h := ?_)); (refine TrA.done (by kernel_rfl) ?_))
    repeat (first | ((with_reducible refine Tr.step rfl ?_); (first | (refine xmQ (z := ?_)) | (refine xlQ (z := ?_)) | (refine xfQ (z := ?_)) | (refine xnQ (z := ?_)))) | (with_reducible first | apply Tr.next | apply Tr.seq | apply Tr.region | apply Tr.nil | apply Tr.block))
    rename_i b1
    have hw : ∃ ws : Nat → List UInt8, ∀ i, ws i = bs ++ (3 :: (num v.l.length ++ encL (v.l.take i))) := ⟨_, fun _ => rfl⟩
    obtain ⟨ws, hws⟩ := hw
    have hwl : ∀ i, (ws i).length = bs.length + 1 + (num v.l.length).length + (encL (v.l.take i)).length := fun i => by rw [hws]; simp; omega
    have hw0 : bs ++ [3] ++ num v.l.length = ws 0 := by rw [hws]; simp [encL]
    rw [hw0]
    refine Tr.loop (α := Nat × Option Addr × Nat) (fun x => ⟨32, [(18, .int .i64 x.1), (17, .int .i64 v.l.length), (16, .slice A v.l.length c), (0, .slice x.2.1 (ws x.1).length x.2.2), (4, .slice none 0 0)], [], M, ownS 5 1 x.2.1 (ws x.1).length x.2.2 (byteV (ws x.1)) :: box b 5 (byteV [3]) :: box b1 53 [.int .i64 v.k, .int .i64 v.n, .string ⟨v.s.toArray⟩, .slice A v.l.length c] :: ([] ++ F)⟩) (fun x => x.1 ≤ v.l.length ∧ x.2.2 ≤ 9223372036854775807) (fun x => v.l.length - x.1) (0, A3, c3) ⟨Nat.zero_le _, hc3⟩ hsQ (fun x hi => ?_)
    obtain ⟨i, A4, c4⟩ := x
    obtain ⟨hi, hc4⟩ := hi
    simp only at hi hc4
    dsimp only
    have htl := encL_take_le v.l i
    by_cases hlt : i < v.l.length
    · obtain ⟨x, hx⟩ := get_of_lt hlt
      obtain ⟨hA1, ch1, hat1, hxv⟩ := hl.elem hx
      have hxm := List.mem_of_getElem? hx
      have hxl : x ∈ l := by rw [← hvl]; exact hxm
      have hxf := formed_mem hf hxm
      have htl2 := encL_take_le v.l (i + 1)
      have hen : (encL (v.l.take (i + 1))).length = (encL (v.l.take i)).length + (enc x).length := by rw [encL_take hx]; simp
      have hx1 := ih x hxl _ ⟨_, rfl, hxv⟩ hxf A4 c4 (ws i) hc4 (by rw [hwl]; omega)
      have hww : ws i ++ enc x = ws (i + 1) := by rw [hws, hws, encL_take hx]; simp
      rw [hww] at hx1
      obtain ⟨A1, c1, rfl, -⟩ := hxv.open_
      repeat (first | ((with_reducible refine Tr.step rfl ?_); (first | ((with_reducible refine Knd.load ?_); ((refine Exec.stab rfl (Stab.loadMA rfl (tysOk.get rfl) rfl (by assumption) rfl) rfl ?_))) | (refine xiQ (z := ?_)) | (refine xWQ (z := ?_)) | ((with_reducible refine Knd.alloc ?_); ((refine Exec.alloc (tysOk.get rfl) rfl rfl (fun b => ?_)))) | (refine xxQ (z := ?_)))) | (with_reducible first | apply Tr.next | apply Tr.seq | apply Tr.region | apply Tr.nil | apply Tr.skip | apply Tr.block) | (refine Tr.cond_t rfl (by first | (with_reducible assumption) | omega) ?_))
      refine Tr.perm (List.Perm.swap _ _ _) ?_
      rcases formed_k hxf with k1 | k2 | k3
      · rw [show wrf x.k = 78 by rw [k1]; rfl] at hx1
        rw [k1] at hx1 ⊢
        (((apply Tr.draw (box _ 53 [.int .i64 1, .int .i64 x.n, .string ⟨x.s.toArray⟩, .slice A1 x.l.length c1] :: _)); (kernel_rfl)); (refine tkQ 1 (hB := by exact (Sub.mem (by repeat (first | exact Sub.refl | apply Sub.cons)))) (s := by exact sfQ) (h := ?_)); (refine tkQ 2 (s := by exact slQ) (h := ?_)); (refine tkQ 5 (s := by exact Stab.move rfl) (h := ?_)); (refine tkQ 6 (s := by exact swQ) (h := ?_)); (refine TrA.eff 0 rfl (by kernel_rfl) (by exact .inl rfl) ?_))
        refine Exec.call0 rfl (kinds_fn M) rfl ?_
        rintro _ _ _ ⟨rfl, rfl⟩
        refine ⟨Mem.le.refl _, (by exact (Sub.mem (by repeat (first | exact Sub.refl | apply Sub.cons)))), ?_⟩
        ((refine tkQ 3 (s := by exact Stab.indexVA rfl rfl (tysOk.get rfl) rfl (tysOk.get rfl) rfl (by omega) (by omega) rfl (by repeat (first | exact TakeL.z | apply TakeL.s))) (h := ?_)); (refine tkQ 4 (s := by exact Stab.field rfl (tysOk.get rfl) rfl rfl (tysOk.get rfl) rfl rfl) (h := ?_)); (refine TrA.eff 7 rfl (by kernel_rfl) (by exact .inl rfl) ?_))
        refine Exec.callv (A := [ownS 5 1 A4 (ws i).length c4 (byteV (ws i))]) (first := []) (cap := []) rfl rfl hx1 (List.Perm.refl _) rfl ?_
        rintro _ _ _ - ⟨rfl, A5, c5, rfl, hc5, rfl⟩
        refine ⟨Mem.le.refl _, (by exact (Sub.mem (by repeat (first | exact Sub.refl | apply Sub.cons)))), ?_⟩
        ((refine tkQ 8 (s := by exact Stab.assign rfl) (h := ?_)); (refine TrA.done (by kernel_rfl) ?_))
        repeat (first | ((with_reducible refine Tr.step rfl ?_); (first | (refine xmQ (z := ?_)) | (refine xdQ (z := ?_)))) | (with_reducible first | apply Tr.next | apply Tr.region | apply Tr.nil | apply Tr.in_normal))
        refine gvQ (r := box _ 53 _) (k := ?_)
        refine Tr.again (i + 1, A5, c5) ⟨by simp only; omega, hc5⟩ (by simp only; omega) hsQ
      · rw [show wrf x.k = 83 by rw [k2]; rfl] at hx1
        rw [k2] at hx1 ⊢
        (((apply Tr.draw (box _ 53 [.int .i64 2, .int .i64 x.n, .string ⟨x.s.toArray⟩, .slice A1 x.l.length c1] :: _)); (kernel_rfl)); (refine tkQ 1 (hB := by exact (Sub.mem (by repeat (first | exact Sub.refl | apply Sub.cons)))) (s := by exact sfQ) (h := ?_)); (refine tkQ 2 (s := by exact slQ) (h := ?_)); (refine tkQ 5 (s := by exact Stab.move rfl) (h := ?_)); (refine tkQ 6 (s := by exact swQ) (h := ?_)); (refine TrA.eff 0 rfl (by kernel_rfl) (by exact .inl rfl) ?_))
        refine Exec.call0 rfl (kinds_fn M) rfl ?_
        rintro _ _ _ ⟨rfl, rfl⟩
        refine ⟨Mem.le.refl _, (by exact (Sub.mem (by repeat (first | exact Sub.refl | apply Sub.cons)))), ?_⟩
        ((refine tkQ 3 (s := by exact Stab.indexVA rfl rfl (tysOk.get rfl) rfl (tysOk.get rfl) rfl (by omega) (by omega) rfl (by repeat (first | exact TakeL.z | apply TakeL.s))) (h := ?_)); (refine tkQ 4 (s := by exact Stab.field rfl (tysOk.get rfl) rfl rfl (tysOk.get rfl) rfl rfl) (h := ?_)); (refine TrA.eff 7 rfl (by kernel_rfl) (by exact .inl rfl) ?_))
        refine Exec.callv (A := [ownS 5 1 A4 (ws i).length c4 (byteV (ws i))]) (first := []) (cap := []) rfl rfl hx1 (List.Perm.refl _) rfl ?_
        rintro _ _ _ - ⟨rfl, A5, c5, rfl, hc5, rfl⟩
        refine ⟨Mem.le.refl _, (by exact (Sub.mem (by repeat (first | exact Sub.refl | apply Sub.cons)))), ?_⟩
        ((refine tkQ 8 (s := by exact Stab.assign rfl) (h := ?_)); (refine TrA.done (by kernel_rfl) ?_))
        repeat (first | ((with_reducible refine Tr.step rfl ?_); (first | (refine xmQ (z := ?_)) | (refine xdQ (z := ?_)))) | (with_reducible first | apply Tr.next | apply Tr.region | apply Tr.nil | apply Tr.in_normal))
        refine gvQ (r := box _ 53 _) (k := ?_)
        refine Tr.again (i + 1, A5, c5) ⟨by simp only; omega, hc5⟩ (by simp only; omega) hsQ
      · rw [show wrf x.k = 87 by rw [k3]; rfl] at hx1
        rw [k3] at hx1 ⊢
        (((apply Tr.draw (box _ 53 [.int .i64 3, .int .i64 x.n, .string ⟨x.s.toArray⟩, .slice A1 x.l.length c1] :: _)); (kernel_rfl)); (refine tkQ 1 (hB := by exact (Sub.mem (by repeat (first | exact Sub.refl | apply Sub.cons)))) (s := by exact sfQ) (h := ?_)); (refine tkQ 2 (s := by exact slQ) (h := ?_)); (refine tkQ 5 (s := by exact Stab.move rfl) (h := ?_)); (refine tkQ 6 (s := by exact swQ) (h := ?_)); (refine TrA.eff 0 rfl (by kernel_rfl) (by exact .inl rfl) ?_))
        refine Exec.call0 rfl (kinds_fn M) rfl ?_
        rintro _ _ _ ⟨rfl, rfl⟩
        refine ⟨Mem.le.refl _, (by exact (Sub.mem (by repeat (first | exact Sub.refl | apply Sub.cons)))), ?_⟩
        ((refine tkQ 3 (s := by exact Stab.indexVA rfl rfl (tysOk.get rfl) rfl (tysOk.get rfl) rfl (by omega) (by omega) rfl (by repeat (first | exact TakeL.z | apply TakeL.s))) (h := ?_)); (refine tkQ 4 (s := by exact Stab.field rfl (tysOk.get rfl) rfl rfl (tysOk.get rfl) rfl rfl) (h := ?_)); (refine TrA.eff 7 rfl (by kernel_rfl) (by exact .inl rfl) ?_))
        refine Exec.callv (A := [ownS 5 1 A4 (ws i).length c4 (byteV (ws i))]) (first := []) (cap := []) rfl rfl hx1 (List.Perm.refl _) rfl ?_
        rintro _ _ _ - ⟨rfl, A5, c5, rfl, hc5, rfl⟩
        refine ⟨Mem.le.refl _, (by exact (Sub.mem (by repeat (first | exact Sub.refl | apply Sub.cons)))), ?_⟩
        ((refine tkQ 8 (s := by exact Stab.assign rfl) (h := ?_)); (refine TrA.done (by kernel_rfl) ?_))
        repeat (first | ((with_reducible refine Tr.step rfl ?_); (first | (refine xmQ (z := ?_)) | (refine xdQ (z := ?_)))) | (with_reducible first | apply Tr.next | apply Tr.region | apply Tr.nil | apply Tr.in_normal))
        refine gvQ (r := box _ 53 _) (k := ?_)
        refine Tr.again (i + 1, A5, c5) ⟨by simp only; omega, hc5⟩ (by simp only; omega) hsQ
    · have e : i = v.l.length := by omega
      subst e
      have hwe : ws v.l.length = bs ++ (3 :: (num v.l.length ++ encL v.l)) := by rw [hws, List.take_length]
      rw [hwe]
      repeat (first | ((with_reducible refine Tr.step rfl ?_); (first | (refine xmQ (z := ?_)) | (refine xaQ (z := ?_)) | (refine xiQ (z := ?_)))) | (with_reducible first | apply Tr.next | apply Tr.seq | apply Tr.region | apply Tr.nil | apply Tr.exit | apply Tr.ret | apply Tr.then_exit) | ((with_reducible refine Tr.in_exit ?_ ?_); (exact rfl)) | (refine Tr.cond_f rfl (by first | (with_reducible assumption) | omega) ?_))
      refine Tr.doneB [_, _] (by first | exact .inl rfl | exact .inr rfl) rfl (by repeat (first | exact RVs.nil | (apply RVs.cons; (exact RV.tmp rfl)))) (Mem.le.refl _) ((List.Perm.swap _ _ _).trans ((List.Perm.swap _ _ _).cons _)) ⟨rfl, A4, c4, rfl, hc4, rfl⟩
end Go.Proofs.YtghjhdbmkilakaaGreatDoor

/-
  The codec: the contracts of Encode and Size.
  Conditions: none.
-/
namespace Go.Proofs.YtghjhdbmkilakaaGreatDoor
open Go Bf
attribute [local irreducible] Tr Exec Stab HasTy Go.Addr.add IntKind.wrap
/-- what Encode answers -/
def encF (v : Val) : List UInt8 := if chk v = 0 then enc v else []
theorem chk_formed {v : Val} (h : chk v = 0) : formed v = true := by
  unfold chk at h
  split at h
  · assumption
  · omega
set_option maxHeartbeats 4000000 in
theorem encode_fn (M : Mem) (v : Val) (r : Value) (h : RV M r v) (hd : depth v ≤ 1000000) (hl : (enc v).length ≤ 1000000000000) :
    Fn0 Tryz.prog 17 [r] M (fun r M' => ∃ B k, r = .tuple #[.slice B (encF v).length k, .int .i64 (chk v)] ∧ BSl M' (.slice B (encF v).length k) (encF v)) := by
  obtain ⟨A, c, rfl, hR, -⟩ := h.open_
  refine Fn.intro Tryz.func17 rfl rfl Tryz.ntmps17 rfl fun E F => ?_
  repeat (first | ((with_reducible refine Tr.step rfl ?_); (first | (refine xaQ (z := ?_)) | (refine xwQ (z := ?_)) | ((with_reducible refine Knd.box ?_); (first | (refine Exec.box rfl rfl (fun b => ?_)) | (refine Exec.box1 rfl (by first | rfl | assumption) rfl (fun b => ?_)))))) | (with_reducible first | apply Tr.next | apply Tr.seq | apply Tr.region | apply Tr.nil))
  ((refine Tr.step rfl ?_)); refine Exec.call0 rfl (check_fn M v _ hR hd) rfl ?_
  rintro _ _ _ ⟨rfl, rfl⟩
  by_cases hc : chk v = 0
  · have hf := chk_formed hc
    have hw := write_k M v _ hR hf none 0 [] (by omega) (by simpa using hl)
    rw [show encF v = enc v by unfold encF; rw [if_pos hc], hc]
    repeat (first | ((with_reducible refine Tr.step rfl ?_); (first | (refine xmQ (z := ?_)) | (refine xaQ (z := ?_)) | (refine xiQ (z := ?_)))) | (with_reducible first | apply Tr.next | apply Tr.seq | apply Tr.region | apply Tr.nil | apply Tr.skip) | (refine Tr.cond_f rfl (by first | (with_reducible assumption) | omega) ?_))
    refine Tr.own_nil 5 1 ?_
    rcases formed_k hf with k1 | k2 | k3
    · rw [show wrf v.k = 78 by rw [k1]; rfl] at hw
      rw [k1] at hw ⊢
      (((apply Tr.draw (box _ 53 [.int .i64 1, .int .i64 v.n, .string ⟨v.s.toArray⟩, .slice A v.l.length c] :: _)); (kernel_rfl)); (refine tkQ 1 (hB := by first | exact fun _ h => h | (intro r h; cases h; done) | exact (Sub.mem (by repeat (first | exact Sub.refl | apply Sub.cons)))) (s := by exact sfQ) (h := ?_)); (refine tkQ 2 (s := by exact slQ) (h := ?_)); (refine tkQ 5 (s := by exact swQ) (h := ?_)); (refine TrA.eff 0 rfl (by kernel_rfl) (by first | exact .inl rfl | exact .inr ⟨_, _, _, rfl, rfl, rfl⟩) ?_))
      refine Exec.call0 rfl (kinds_fn M) rfl ?_
      rintro _ _ _ ⟨rfl, rfl⟩
      refine ⟨Mem.le.refl _, (by first | exact fun _ h => h | (intro r h; cases h; done) | exact (Sub.mem (by repeat (first | exact Sub.refl | apply Sub.cons)))), ?_⟩
      ((refine tkQ 3 (s := by first | exact Stab.indexVA rfl rfl (tysOk.get rfl) rfl (tysOk.get rfl) rfl (by omega) (by omega) rfl (by repeat (first | exact TakeL.z | apply TakeL.s))) (h := ?_)); (refine tkQ 4 (s := by exact Stab.field rfl (tysOk.get rfl) rfl rfl (tysOk.get rfl) rfl rfl) (h := ?_)); (refine TrA.eff 6 rfl (by kernel_rfl) (by first | exact .inl rfl | exact .inr ⟨_, _, _, rfl, rfl, rfl⟩) ?_))
      refine Exec.callv (A := [ownS 5 1 none 0 0 []]) (first := []) (cap := []) rfl rfl hw (List.Perm.refl _) rfl ?_
      rintro _ _ _ - ⟨rfl, A5, c5, rfl, hc5, rfl⟩
      refine ⟨Mem.le.refl _, (by first | exact fun _ h => h | (intro r h; cases h; done) | exact (Sub.mem (by repeat (first | exact Sub.refl | apply Sub.cons)))), ?_⟩
      ((refine tkQ 7 (s := by exact Stab.assign rfl) (h := ?_)); (refine tkQ 8 (s := by exact Stab.assign rfl) (h := ?_)); (refine TrA.done (by kernel_rfl) ?_))
      refine pbQ (r := ownS 5 1 _ _ _ _) (k := fun M' hm hok => ?_)
      repeat (first | (with_reducible first | apply Tr.next | apply Tr.ret))
      (refine dnQ (hL := by exact ⟨[_], rfl⟩) (k := ⟨rfl, ?_⟩))
      exact ⟨A5, c5, rfl, BSl.ofOwn hok rfl hc5⟩
    · rw [show wrf v.k = 83 by rw [k2]; rfl] at hw
      rw [k2] at hw ⊢
      (((apply Tr.draw (box _ 53 [.int .i64 2, .int .i64 v.n, .string ⟨v.s.toArray⟩, .slice A v.l.length c] :: _)); (kernel_rfl)); (refine tkQ 1 (hB := by first | exact fun _ h => h | (intro r h; cases h; done) | exact (Sub.mem (by repeat (first | exact Sub.refl | apply Sub.cons)))) (s := by exact sfQ) (h := ?_)); (refine tkQ 2 (s := by exact slQ) (h := ?_)); (refine tkQ 5 (s := by exact swQ) (h := ?_)); (refine TrA.eff 0 rfl (by kernel_rfl) (by first | exact .inl rfl | exact .inr ⟨_, _, _, rfl, rfl, rfl⟩) ?_))
      refine Exec.call0 rfl (kinds_fn M) rfl ?_
      rintro _ _ _ ⟨rfl, rfl⟩
      refine ⟨Mem.le.refl _, (by first | exact fun _ h => h | (intro r h; cases h; done) | exact (Sub.mem (by repeat (first | exact Sub.refl | apply Sub.cons)))), ?_⟩
      ((refine tkQ 3 (s := by first | exact Stab.indexVA rfl rfl (tysOk.get rfl) rfl (tysOk.get rfl) rfl (by omega) (by omega) rfl (by repeat (first | exact TakeL.z | apply TakeL.s))) (h := ?_)); (refine tkQ 4 (s := by exact Stab.field rfl (tysOk.get rfl) rfl rfl (tysOk.get rfl) rfl rfl) (h := ?_)); (refine TrA.eff 6 rfl (by kernel_rfl) (by first | exact .inl rfl | exact .inr ⟨_, _, _, rfl, rfl, rfl⟩) ?_))
      refine Exec.callv (A := [ownS 5 1 none 0 0 []]) (first := []) (cap := []) rfl rfl hw (List.Perm.refl _) rfl ?_
      rintro _ _ _ - ⟨rfl, A5, c5, rfl, hc5, rfl⟩
      refine ⟨Mem.le.refl _, (by first | exact fun _ h => h | (intro r h; cases h; done) | exact (Sub.mem (by repeat (first | exact Sub.refl | apply Sub.cons)))), ?_⟩
      ((refine tkQ 7 (s := by exact Stab.assign rfl) (h := ?_)); (refine tkQ 8 (s := by exact Stab.assign rfl) (h := ?_)); (refine TrA.done (by kernel_rfl) ?_))
      refine pbQ (r := ownS 5 1 _ _ _ _) (k := fun M' hm hok => ?_)
      repeat (first | (with_reducible first | apply Tr.next | apply Tr.ret))
      (refine dnQ (hL := by exact ⟨[_], rfl⟩) (k := ⟨rfl, ?_⟩))
      exact ⟨A5, c5, rfl, BSl.ofOwn hok rfl hc5⟩
    · rw [show wrf v.k = 87 by rw [k3]; rfl] at hw
      rw [k3] at hw ⊢
      (((apply Tr.draw (box _ 53 [.int .i64 3, .int .i64 v.n, .string ⟨v.s.toArray⟩, .slice A v.l.length c] :: _)); (kernel_rfl)); (refine tkQ 1 (hB := by first | exact fun _ h => h | (intro r h; cases h; done) | exact (Sub.mem (by repeat (first | exact Sub.refl | apply Sub.cons)))) (s := by exact sfQ) (h := ?_)); (refine tkQ 2 (s := by exact slQ) (h := ?_)); (refine tkQ 5 (s := by exact swQ) (h := ?_)); (refine TrA.eff 0 rfl (by kernel_rfl) (by first | exact .inl rfl | exact .inr ⟨_, _, _, rfl, rfl, rfl⟩) ?_))
      refine Exec.call0 rfl (kinds_fn M) rfl ?_
      rintro _ _ _ ⟨rfl, rfl⟩
      refine ⟨Mem.le.refl _, (by first | exact fun _ h => h | (intro r h; cases h; done) | exact (Sub.mem (by repeat (first | exact Sub.refl | apply Sub.cons)))), ?_⟩
      ((refine tkQ 3 (s := by first | exact Stab.indexVA rfl rfl (tysOk.get rfl) rfl (tysOk.get rfl) rfl (by omega) (by omega) rfl (by repeat (first | exact TakeL.z | apply TakeL.s))) (h := ?_)); (refine tkQ 4 (s := by exact Stab.field rfl (tysOk.get rfl) rfl rfl (tysOk.get rfl) rfl rfl) (h := ?_)); (refine TrA.eff 6 rfl (by kernel_rfl) (by first | exact .inl rfl | exact .inr ⟨_, _, _, rfl, rfl, rfl⟩) ?_))
      refine Exec.callv (A := [ownS 5 1 none 0 0 []]) (first := []) (cap := []) rfl rfl hw (List.Perm.refl _) rfl ?_
      rintro _ _ _ - ⟨rfl, A5, c5, rfl, hc5, rfl⟩
      refine ⟨Mem.le.refl _, (by first | exact fun _ h => h | (intro r h; cases h; done) | exact (Sub.mem (by repeat (first | exact Sub.refl | apply Sub.cons)))), ?_⟩
      ((refine tkQ 7 (s := by exact Stab.assign rfl) (h := ?_)); (refine tkQ 8 (s := by exact Stab.assign rfl) (h := ?_)); (refine TrA.done (by kernel_rfl) ?_))
      refine pbQ (r := ownS 5 1 _ _ _ _) (k := fun M' hm hok => ?_)
      repeat (first | (with_reducible first | apply Tr.next | apply Tr.ret))
      (refine dnQ (hL := by exact ⟨[_], rfl⟩) (k := ⟨rfl, ?_⟩))
      exact ⟨A5, c5, rfl, BSl.ofOwn hok rfl hc5⟩
  · rw [show encF v = [] by unfold encF; rw [if_neg hc]]
    repeat (first | ((with_reducible refine Tr.step rfl ?_); (first | (refine xmQ (z := ?_)) | (refine xaQ (z := ?_)) | (refine xiQ (z := ?_)))) | (with_reducible first | apply Tr.next | apply Tr.seq | apply Tr.region | apply Tr.nil | apply Tr.ret | apply Tr.then_ret) | (refine Tr.cond_t rfl (by first | (with_reducible assumption) | omega) ?_))
    (refine dnQ (hL := by exact ⟨[_], rfl⟩) (k := ⟨rfl, ?_⟩))
    exact ⟨none, 0, rfl, BSl.mk (bs := []) (by simp) (by simp) (fun _ => rfl) (Row.nil _ _ _)⟩
end Go.Proofs.YtghjhdbmkilakaaGreatDoor

/-
  The codec: the plain laws of reading and writing.
  Conditions: none; plain Lean over the functions of C2, C3, C4, C6, C7.
-/
namespace Go.Proofs.YtghjhdbmkilakaaGreatDoor
open Go Bf
theorem ofNat_toNat8 {u : Nat} (h : u < 256) : (UInt8.ofNat u).toNat = u := by simp [UInt8.toNat_ofNat', Nat.mod_eq_of_lt h]
theorem rdN_num : ∀ (u i : Nat) (r : List UInt8), i ≤ 9 → u * 2 ^ (7 * i) < 2 ^ 64 → (0 < i → 0 < u) → rdN i (num u ++ r) = some (u * 2 ^ (7 * i), r) := by
  intro u
  induction u using Nat.strongRecOn with
  | _ u ih =>
    intro i r hi hu h0
    by_cases h : u < 128
    · rw [num_small h]
      show rdN i (UInt8.ofNat u :: r) = _
      rw [rdN, ofNat_toNat8 (by omega)]
      have h9 : ¬ (i = 9 ∧ 1 < u) := by
        rintro ⟨rfl, h1⟩
        have : (2 : Nat) ^ (7 * 9) = 9223372036854775808 := by decide
        omega
      rw [if_neg h9, if_pos h, if_neg (by omega)]
    · rw [num_big (by omega)]
      show rdN i (UInt8.ofNat (u % 128 + 128) :: (num (u / 128) ++ r)) = _
      have hp : (2 : Nat) ^ (7 * (i + 1)) = 128 * 2 ^ (7 * i) := by rw [show 7 * (i + 1) = 7 * i + 7 by omega, Nat.pow_add]; omega
      have hsum : u % 128 * 2 ^ (7 * i) + u / 128 * 2 ^ (7 * (i + 1)) = u * 2 ^ (7 * i) := by
        rw [hp, ← Nat.mul_assoc, ← Nat.add_mul]
        congr 1
        omega
      have h9 : i ≠ 9 := by
        rintro rfl
        have : (2 : Nat) ^ (7 * 9) = 9223372036854775808 := by decide
        omega
      rw [rdN, ofNat_toNat8 (by omega), if_neg (by omega), if_neg (by omega), ih (u / 128) (by omega) (i + 1) r (by omega) (by omega) (fun _ => by omega)]
      simp only [Option.map_some]
      rw [show (u % 128 + 128) % 128 = u % 128 by omega, hsum]
theorem rdN0_num {u : Nat} (r : List UInt8) (hu : u < 2 ^ 64) : rdN 0 (num u ++ r) = some (u, r) := by
  have := rdN_num u 0 r (by omega) (by simpa using hu) (by omega)
  simpa using this
theorem rdN_inv : ∀ (bs : List UInt8) (i v : Nat) (r : List UInt8), i ≤ 9 → rdN i bs = some (v, r) → ∃ u, v = u * 2 ^ (7 * i) ∧ bs = num u ++ r ∧ (0 < i → 0 < u) := by
  intro bs
  induction bs with
  | nil => intro i v r _ h; cases h
  | cons c bs ih =>
    intro i v r hi h
    have hc := c.toNat_lt
    rw [rdN] at h
    split at h
    · cases h
    · rename_i h9
      split at h
      · rename_i h128
        split at h
        · cases h
        · rename_i h0
          simp only [Option.some.injEq, Prod.mk.injEq] at h
          obtain ⟨rfl, rfl⟩ := h
          refine ⟨c.toNat, rfl, ?_, fun _ => by omega⟩
          rw [num_small h128, UInt8.ofNat_toNat]
          rfl
      · rename_i h128
        cases hr : rdN (i + 1) bs with
        | none => rw [hr] at h; cases h
        | some x =>
          obtain ⟨v', r'⟩ := x
          rw [hr] at h
          simp only [Option.map_some, Option.some.injEq, Prod.mk.injEq] at h
          obtain ⟨rfl, rfl⟩ := h
          obtain ⟨u', rfl, rfl, hpos⟩ := ih (i + 1) v' r' (by omega) hr
          have hpos := hpos (by omega)
          have hp : (2 : Nat) ^ (7 * (i + 1)) = 128 * 2 ^ (7 * i) := by rw [show 7 * (i + 1) = 7 * i + 7 by omega, Nat.pow_add]; omega
          refine ⟨c.toNat % 128 + u' * 128, ?_, ?_, fun _ => by omega⟩
          · rw [hp, ← Nat.mul_assoc, ← Nat.add_mul]
          · rw [num_big (u := c.toNat % 128 + u' * 128) (by omega), show (c.toNat % 128 + u' * 128) % 128 + 128 = c.toNat by omega, show (c.toNat % 128 + u' * 128) / 128 = u' by omega, UInt8.ofNat_toNat]
            rfl
theorem rdN0_inv {bs r : List UInt8} {v : Nat} (h : rdN 0 bs = some (v, r)) : bs = num v ++ r := by
  obtain ⟨u, rfl, h, -⟩ := rdN_inv bs 0 v r (by omega) h
  simpa using h
theorem unzz_zz (n : Int) : unzz (zz n) = n := by
  unfold unzz zz
  split <;> split <;> omega
theorem zz_unzz (u : Nat) : zz (unzz u) = u := by
  unfold unzz zz
  split <;> split <;> omega
/-- every number of a value is one of 64 bits -/
inductive Ok64 : Val → Prop
  | mk {k n : Int} {s : List UInt8} {l : List Val} (hn : -9223372036854775808 ≤ n ∧ n ≤ 9223372036854775807) (h : ∀ x ∈ l, Ok64 x) : Ok64 (.mk k n s l)
theorem Ok64.n {v : Val} (h : Ok64 v) : -9223372036854775808 ≤ v.n ∧ v.n ≤ 9223372036854775807 := by cases h; assumption
theorem Ok64.l {v : Val} (h : Ok64 v) : ∀ x ∈ v.l, Ok64 x := by cases h; assumption
theorem RVal.ok64 {M : Mem} {cs : List Value} {v : Val} (h : RVal M cs v) : Ok64 v := by
  induction h with
  | mk k n s l A c cells hk hn hs h1 h2 h3 h4 h5 ih =>
    refine .mk hn fun x hx => ?_
    obtain ⟨i, hi⟩ := List.mem_iff_getElem?.1 hx
    exact ih i x hi
theorem RV.ok64 {M : Mem} {r : Value} {v : Val} (h : RV M r v) : Ok64 v := h.choose_spec.2.ok64
theorem depthL_mem {l : List Val} {x : Val} (h : x ∈ l) : depth x ≤ depthL l := by
  induction l with
  | nil => cases h
  | cons y l ih =>
    rw [depthL]
    rcases List.mem_cons.1 h with rfl | h
    · omega
    · have := ih h; omega
theorem rdL_enc {f : List UInt8 → Option (Val × List UInt8)} (rest : List UInt8) : ∀ (l : List Val), (∀ x ∈ l, ∀ r, f (enc x ++ r) = some (x, r)) → rdL f l.length (encL l ++ rest) = some (l, rest)
  | [], _ => rfl
  | x :: l, h => by
    rw [encL, List.length_cons, rdL, List.append_assoc, h x (by simp)]
    dsimp only
    rw [rdL_enc rest l (fun y hy => h y (by simp [hy]))]
theorem depth3 {v : Val} (h : v.k = 3) : depth v = depthL v.l + 1 := by
  cases v with
  | mk k n s l => have h : k = 3 := h; rw [depth, if_pos h]; rfl
theorem pure_cases {v : Val} (h : formed v = true) : (∃ n, v = .mk 1 n [] []) ∨ (∃ s, v = .mk 2 0 s []) ∨ (∃ l, v = .mk 3 0 [] l) := by
  cases v with
  | mk k n s l =>
    rw [formed_eq, Bool.and_eq_true] at h
    have h := h.1
    simp only [pureOk, Bool.or_eq_true, Bool.and_eq_true, decide_eq_true_eq, List.isEmpty_iff, Val.k, Val.n, Val.s, Val.l] at h
    rcases h with (⟨⟨h1, h2⟩, h3⟩ | ⟨⟨h1, h2⟩, h3⟩) | ⟨⟨h1, h2⟩, h3⟩
    · obtain rfl := of_decide_eq_true h1
      subst h2 h3
      exact .inl ⟨_, rfl⟩
    · obtain rfl := of_decide_eq_true h1
      obtain rfl := of_decide_eq_true h2
      subst h3
      exact .inr (.inl ⟨_, rfl⟩)
    · obtain rfl := of_decide_eq_true h1
      obtain rfl := of_decide_eq_true h2
      subst h3
      exact .inr (.inr ⟨_, rfl⟩)
theorem rdStep_enc (sub : Option (List UInt8 → Option (Val × List UInt8))) (v : Val) (rest : List UInt8) (hf : formed v = true) (ho : Ok64 v) (hl : (enc v).length ≤ 1000000000000)
    (hs : v.k = 3 → v.l.length < 2 ^ 64 → ∃ f, sub = some f ∧ ∀ x ∈ v.l, ∀ r, f (enc x ++ r) = some (x, r)) (hll : v.l.length < 2 ^ 64) : rdStep sub (enc v ++ rest) = some (v, rest) := by
  rcases pure_cases hf with ⟨n, rfl⟩ | ⟨s, rfl⟩ | ⟨l, rfl⟩
  · rw [enc1 rfl, List.cons_append, rdStep_cons, if_pos (by decide)]
    rw [rdN0_num rest (zz_lt ho.n)]
    show some _ = some _
    dsimp only
    rw [unzz_zz]
    rfl
  · rw [enc2 rfl] at hl ⊢
    have hsl : s.length < 2 ^ 64 := by
      have : (2 :: (num s.length ++ s)).length ≤ 1000000000000 := hl
      simp at this; omega
    rw [List.cons_append, rdStep_cons, if_neg (by decide), if_pos (by decide)]
    show (match rdN 0 (num s.length ++ s ++ rest) with | none => none | some (n, r) => if n ≤ r.length then some (Val.mk 2 0 (r.take n) [], r.drop n) else none) = _
    rw [List.append_assoc, rdN0_num _ hsl]
    dsimp only
    rw [if_pos (by simp)]
    simp
  · rw [enc3 rfl] at hl ⊢
    obtain ⟨f, rfl, hs2⟩ := hs rfl hll
    rw [List.cons_append, rdStep_cons, if_neg (by decide), if_neg (by decide), if_pos (by decide)]
    show (match rdN 0 (num l.length ++ encL l ++ rest) with | none => none | some (n, r) => (rdL f n r).map fun (x : List Val × List UInt8) => (Val.mk 3 0 [] x.1, x.2)) = _
    have hll : l.length < 2 ^ 64 := hll
    rw [List.append_assoc, rdN0_num _ hll]
    dsimp only
    rw [rdL_enc rest l hs2]
    rfl
theorem enc_pos {v : Val} (h : formed v = true) : 1 ≤ (enc v).length := by
  rcases formed_k h with h1 | h1 | h1
  · rw [enc1 h1]; simp
  · rw [enc2 h1]; simp
  · rw [enc3 h1]; simp
theorem encL_len {l : List Val} (h : ∀ x ∈ l, formed x = true) : l.length ≤ (encL l).length := by
  induction l with
  | nil => simp
  | cons x l ih =>
    have h1 := enc_pos (h x (by simp))
    have h2 := ih (fun y hy => h y (by simp [hy]))
    rw [encL, List.length_append, List.length_cons]
    omega
theorem formed_ll {v : Val} (hf : formed v = true) (hl : (enc v).length ≤ 1000000000000) : v.l.length < 2 ^ 64 := by
  rcases pure_cases hf with ⟨n, rfl⟩ | ⟨s, rfl⟩ | ⟨l, rfl⟩
  · show 0 < 2 ^ 64; omega
  · show 0 < 2 ^ 64; omega
  · rw [enc3 rfl] at hl
    have := encL_len (l := l) (fun x hx => formed_mem hf hx)
    have hl : (3 :: (num l.length ++ encL l)).length ≤ 1000000000000 := hl
    show l.length < 2 ^ 64
    simp at hl
    omega
theorem enc_mem3 {v x : Val} (h3 : v.k = 3) (hx : x ∈ v.l) : (enc x).length < (enc v).length := by
  rw [enc3 h3]
  have := enc_mem hx
  simp
  omega
theorem rdV_enc : ∀ (room : Nat) (v : Val) (rest : List UInt8), formed v = true → depth v ≤ room → Ok64 v → (enc v).length ≤ 1000000000000 → rdV room (enc v ++ rest) = some (v, rest) := by
  intro room
  induction room with
  | zero =>
    intro v rest hf hd ho hl
    exact rdStep_enc none v rest hf ho hl (fun h3 => by rw [depth3 h3] at hd; omega) (formed_ll hf hl)
  | succ room ih =>
    intro v rest hf hd ho hl
    refine rdStep_enc (some (rdV room)) v rest hf ho hl (fun h3 _ => ⟨_, rfl, fun x hx r => ?_⟩) (formed_ll hf hl)
    rw [depth3 h3] at hd
    have h1 := depthL_mem hx
    have h2 := enc_mem3 h3 hx
    exact ih x r (formed_mem hf hx) (by omega) (ho.l x hx) (by omega)
theorem rdL_inv {f : List UInt8 → Option (Val × List UInt8)} {P : Val → Prop} (hf : ∀ bs v r, f bs = some (v, r) → P v ∧ bs = enc v ++ r) : ∀ (n : Nat) (bs : List UInt8) (l : List Val) (r : List UInt8), rdL f n bs = some (l, r) → l.length = n ∧ (∀ x ∈ l, P x) ∧ bs = encL l ++ r
  | 0, bs, l, r, h => by
    rw [rdL] at h
    cases h
    exact ⟨rfl, by simp, by simp [encL]⟩
  | n + 1, bs, l, r, h => by
    rw [rdL] at h
    split at h
    · cases h
    · rename_i v r1 h1
      split at h
      · cases h
      · rename_i l2 r2 h2
        cases h
        obtain ⟨p1, p2⟩ := hf _ _ _ h1
        obtain ⟨q1, q2, q3⟩ := rdL_inv hf n _ _ _ h2
        refine ⟨by simp [q1], ?_, by rw [p2, q3, encL, List.append_assoc]⟩
        intro x hx
        rcases List.mem_cons.1 hx with rfl | hx
        · exact p1
        · exact q2 x hx
theorem depthL_max {l : List Val} {m : Nat} (h : ∀ x ∈ l, depth x ≤ m) : depthL l ≤ m := by
  induction l with
  | nil => simp [depthL]
  | cons x l ih =>
    rw [depthL]
    have h1 := h x (by simp)
    have h2 := ih (fun y hy => h y (by simp [hy]))
    omega
theorem rdStep_inv {sub : Option (List UInt8 → Option (Val × List UInt8))} {m : Nat} {bs r : List UInt8} {v : Val} (hs : ∀ f, sub = some f → ∃ m', m = m' + 1 ∧ ∀ bs v r, f bs = some (v, r) → (formed v = true ∧ depth v ≤ m' ∧ Ok64 v) ∧ bs = enc v ++ r)
    (h : rdStep sub bs = some (v, r)) : (formed v = true ∧ depth v ≤ m ∧ Ok64 v) ∧ bs = enc v ++ r := by
  cases bs with
  | nil => cases h
  | cons k bs =>
    rw [rdStep_cons] at h
    have hk0 : ∀ {u : Nat}, u < 256 → k.toNat = u → k = UInt8.ofNat u := fun hu he => by rw [← he, UInt8.ofNat_toNat]
    split at h
    · rename_i hk
      cases hr : rdN 0 bs with
      | none => rw [hr] at h; cases h
      | some x =>
        obtain ⟨u, r'⟩ := x
        rw [hr] at h
        simp only [Option.map_some, Option.some.injEq, Prod.mk.injEq] at h
        obtain ⟨rfl, rfl⟩ := h
        have hlt := (rdN_lt (by omega) hr).1
        refine ⟨⟨rfl, by simp [depth], .mk ?_ (by simp)⟩, ?_⟩
        · unfold unzz; split <;> omega
        · rw [enc1 rfl, rdN0_inv hr, hk0 (by omega) hk]
          show _ = 1 :: num (zz (unzz u)) ++ r'
          rw [zz_unzz]
          rfl
    · split at h
      · rename_i hk1 hk
        split at h
        · cases h
        · rename_i n r' hr
          split at h
          · rename_i hn
            simp only [Option.some.injEq, Prod.mk.injEq] at h
            obtain ⟨rfl, rfl⟩ := h
            refine ⟨⟨by simp [formed, formedL], by simp [depth], .mk (by omega) (by simp)⟩, ?_⟩
            rw [enc2 rfl, rdN0_inv hr, hk0 (by omega) hk]
            show _ = 2 :: (num (r'.take n).length ++ r'.take n) ++ r'.drop n
            rw [List.length_take, Nat.min_eq_left hn, List.cons_append, List.append_assoc, List.take_append_drop]
            rfl
          · cases h
      · split at h
        · rename_i hk1 hk2 hk
          split at h
          · cases h
          · rename_i f
            obtain ⟨m', rfl, hs2⟩ := hs f rfl
            split at h
            · cases h
            · rename_i n r' hr
              cases hr2 : rdL f n r' with
              | none => rw [hr2] at h; cases h
              | some x =>
                obtain ⟨l, r2⟩ := x
                rw [hr2] at h
                simp only [Option.map_some, Option.some.injEq, Prod.mk.injEq] at h
                obtain ⟨rfl, rfl⟩ := h
                obtain ⟨q1, q2, q3⟩ := rdL_inv (P := fun v => formed v = true ∧ depth v ≤ m' ∧ Ok64 v) hs2 n r' l r2 hr2
                refine ⟨⟨?_, ?_, .mk (by omega) fun x hx => (q2 x hx).2.2⟩, ?_⟩
                · rw [formed, formedL_all, Bool.and_eq_true]
                  exact ⟨by simp, List.all_eq_true.2 fun x hx => (q2 x hx).1⟩
                · rw [depth, if_pos rfl]
                  have := depthL_max fun x hx => (q2 x hx).2.1
                  omega
                · rw [enc3 rfl, rdN0_inv hr, hk0 (by omega) hk, q3]
                  show _ = 3 :: (num l.length ++ encL l) ++ r2
                  rw [q1, List.cons_append, List.append_assoc]
                  rfl
        · cases h
theorem rdV_inv : ∀ (room : Nat) (bs : List UInt8) (v : Val) (r : List UInt8), rdV room bs = some (v, r) → (formed v = true ∧ depth v ≤ room ∧ Ok64 v) ∧ bs = enc v ++ r := by
  intro room
  induction room with
  | zero => exact fun bs v r h => rdStep_inv (sub := none) (fun f hf => by cases hf) h
  | succ room ih => exact fun bs v r h => rdStep_inv (sub := some (rdV room)) (fun f hf => by cases hf; exact ⟨room, rfl, ih⟩) h
theorem chk_zero {v : Val} : chk v = 0 ↔ formed v = true ∧ depth v ≤ 16 := by
  unfold chk
  constructor
  · intro h
    split at h
    · rename_i hf
      split at h
      · rename_i hd; exact ⟨hf, hd⟩
      · omega
    · omega
  · rintro ⟨hf, hd⟩
    rw [if_pos hf, if_pos hd]
theorem decF_enc {v : Val} (hc : chk v = 0) (ho : Ok64 v) (hl : (enc v).length ≤ 1000000000000) : decF (enc v) = (v, 0) := by
  obtain ⟨hf, hd⟩ := chk_zero.1 hc
  have := rdV_enc 16 v [] hf hd ho hl
  rw [List.append_nil] at this
  unfold decF
  rw [this]
theorem decF_cases (bs : List UInt8) : decF bs = (zVal, 10) ∨ ∃ v, decF bs = (v, 0) ∧ chk v = 0 ∧ enc v = bs ∧ Ok64 v := by
  unfold decF
  split
  · rename_i v h
    obtain ⟨⟨h1, h2, h3⟩, h4⟩ := rdV_inv 16 _ _ _ h
    exact .inr ⟨v, rfl, chk_zero.2 ⟨h1, h2⟩, by rw [h4, List.append_nil], h3⟩
  · exact .inl rfl
end Go.Proofs.YtghjhdbmkilakaaGreatDoor

/-
  Frames, plain: a message and its value.
  Conditions: none.
-/
namespace Go.Proofs.YtghjhdbmkilakaaGreatDoor
open Go Bf
structure Rel where
  out : List Int
  inn : List (List Int)
structure Msg where
  kind : Int
  head : List Int
  labels : List Int
  verdicts : List Int
  rels : List Rel
  sl : List UInt8
def nV (n : Int) : Val := .mk 1 n [] []
def lV (l : List Val) : Val := .mk 3 0 [] l
def numsV (l : List Int) : Val := lV (l.map nV)
def relV (r : Rel) : Val := lV [numsV r.out, lV (r.inn.map numsV)]
def msgV (m : Msg) : Val := lV (m.head.map nV ++ [numsV m.labels, numsV m.verdicts, lV (m.rels.map relV), .mk 2 0 m.sl []])
/-- what the elements are, if each of them is one -/
def manyO {α : Type} (f : Val → Option α) : List Val → Option (List α)
  | [] => some []
  | v :: l => match f v, manyO f l with
    | some x, some y => some (x :: y)
    | _, _ => none
def nO (v : Val) : Option Int := if v.k = 1 then some v.n else none
def lO {α : Type} (f : Val → Option α) (v : Val) : Option (List α) := if v.k = 3 then manyO f v.l else none
def relO (v : Val) : Option Rel := if v.k = 3 then (match v.l with
  | [a, b] => (match lO nO a, lO (lO nO) b with
    | some x, some y => some ⟨x, y⟩
    | _, _ => none)
  | _ => none) else none
def sealO (v : Val) : Option (List UInt8) := if v.k = 2 ∧ v.s.length = 32 then some v.s else none
def msgO (k : Int) (v : Val) : Option Msg := if v.k = 3 ∧ v.l.length = 11 then (match v.l.drop 7 with
  | [a, b, c, d] => (match manyO nO (v.l.take 7), lO nO a, lO nO b, lO relO c, sealO d with
    | some h, some x, some y, some z, some s => some ⟨k, h, x, y, z, s⟩
    | _, _, _, _, _ => none)
  | _ => none) else none
theorem manyO_map {α : Type} {f : Val → Option α} {g : α → Val} (h : ∀ x, f (g x) = some x) : ∀ l : List α, manyO f (l.map g) = some l
  | [] => rfl
  | x :: l => by rw [List.map_cons, manyO, h, manyO_map h l]
theorem nO_nV (n : Int) : nO (nV n) = some n := rfl
theorem lO_lV {α : Type} {f : Val → Option α} {g : α → Val} (h : ∀ x, f (g x) = some x) (l : List α) : lO f (lV (l.map g)) = some l := by
  rw [lO, if_pos (show (lV (l.map g)).k = 3 from rfl)]; exact manyO_map h l
theorem lO_numsV (l : List Int) : lO nO (numsV l) = some l := lO_lV nO_nV l
theorem relO_relV (r : Rel) : relO (relV r) = some r := by
  obtain ⟨o, i⟩ := r
  show (match lO nO (numsV o), lO (lO nO) (lV (i.map numsV)) with
    | some x, some y => some (⟨x, y⟩ : Rel)
    | _, _ => none) = _
  rw [lO_numsV, lO_lV lO_numsV]
theorem msgO_msgV {m : Msg} (h : m.sl.length = 32) (h7 : m.head.length = 7) : msgO m.kind (msgV m) = some m := by
  obtain ⟨k, hd, a, b, c, s⟩ := m
  simp only at h h7
  have e1 : (hd.map nV ++ [numsV a, numsV b, lV (c.map relV), .mk 2 0 s []]).drop 7 = [numsV a, numsV b, lV (c.map relV), .mk 2 0 s []] := by
    rw [List.drop_append_of_le_length (by rw [List.length_map]; omega), List.drop_of_length_le (by rw [List.length_map]; omega), List.nil_append]
  have e2 : (hd.map nV ++ [numsV a, numsV b, lV (c.map relV), .mk 2 0 s []]).take 7 = hd.map nV := by
    rw [List.take_append_of_le_length (by rw [List.length_map]; omega), List.take_of_length_le (by rw [List.length_map]; omega)]
  have e3 : sealO (.mk 2 0 s []) = some s := by rw [sealO, if_pos ⟨rfl, h⟩]; rfl
  rw [msgO, if_pos ⟨rfl, by show (hd.map nV ++ [numsV a, numsV b, lV (c.map relV), .mk 2 0 s []]).length = 11; simp [h7]⟩]
  show (match (hd.map nV ++ [numsV a, numsV b, lV (c.map relV), .mk 2 0 s []]).drop 7 with
  | [a, b, c, d] => (match manyO nO ((hd.map nV ++ [numsV _, numsV _, lV (List.map relV _), .mk 2 0 s []]).take 7), lO nO a, lO nO b, lO relO c, sealO d with
    | some h, some x, some y, some z, some s => some (⟨k, h, x, y, z, s⟩ : Msg)
    | _, _, _, _, _ => none)
  | _ => none) = _
  rw [e1]
  simp only [e2]
  rw [manyO_map nO_nV, lO_numsV, lO_numsV, lO_lV relO_relV, e3]
/-- what is read of formed values has these values -/
def Inv {α : Type} (f : Val → Option α) (g : α → Val) : Prop := ∀ v x, formed v = true → f v = some x → g x = v
theorem manyO_inv {α : Type} {f : Val → Option α} {g : α → Val} (h : Inv f g) : ∀ (l : List Val) (x : List α), (∀ v ∈ l, formed v = true) → manyO f l = some x → x.map g = l
  | [], x, _, e => by cases e; rfl
  | v :: l, x, hl, e => by
    rw [manyO] at e
    cases e1 : f v with
    | none => rw [e1] at e; cases e
    | some y =>
      cases e2 : manyO f l with
      | none => rw [e1, e2] at e; cases e
      | some z =>
        rw [e1, e2] at e; cases e
        rw [List.map_cons, h v y (hl v (List.mem_cons_self ..)) e1, manyO_inv h l z (fun w hw => hl w (List.mem_cons_of_mem _ hw)) e2]
theorem nO_inv : Inv nO nV := by
  intro v x hf e
  unfold nO at e
  split at e
  · rename_i hk
    cases e
    rcases pure_cases hf with ⟨n, rfl⟩ | ⟨s, rfl⟩ | ⟨l, rfl⟩
    · rfl
    · exact absurd hk (by simp [Val.k])
    · exact absurd hk (by simp [Val.k])
  · cases e
theorem three {v : Val} (hf : formed v = true) (hk : v.k = 3) : v = lV v.l ∧ ∀ x ∈ v.l, formed x = true := by
  rcases pure_cases hf with ⟨n, rfl⟩ | ⟨s, rfl⟩ | ⟨l, rfl⟩
  · exact absurd hk (by simp [Val.k])
  · exact absurd hk (by simp [Val.k])
  · refine ⟨rfl, ?_⟩
    rw [formed, formedL_all] at hf
    simp only [Bool.and_eq_true] at hf
    exact List.all_eq_true.1 hf.2
theorem lO_inv {α : Type} {f : Val → Option α} {g : α → Val} (h : Inv f g) : Inv (lO f) (fun l => lV (l.map g)) := by
  intro v x hf e
  unfold lO at e
  split at e
  · rename_i hk
    obtain ⟨e1, e2⟩ := three hf hk
    show lV (x.map g) = v
    rw [manyO_inv h v.l x e2 e, ← e1]
  · cases e
theorem relO_inv : Inv relO relV := by
  intro v x hf e
  unfold relO at e
  split at e
  · rename_i hk
    obtain ⟨e1, e2⟩ := three hf hk
    split at e
    · rename_i a b hab
      cases e3 : lO nO a with
      | none => rw [e3] at e; cases e
      | some y =>
        cases e4 : lO (lO nO) b with
        | none => rw [e3, e4] at e; cases e
        | some z =>
          rw [e3, e4] at e; cases e
          have q1 := lO_inv nO_inv a y (e2 a (by rw [hab]; simp)) e3
          have q2 := lO_inv (lO_inv nO_inv) b z (e2 b (by rw [hab]; simp)) e4
          rw [e1, hab]
          show lV [lV (y.map nV), lV (z.map numsV)] = _
          rw [show lV (y.map nV) = a from q1, show lV (z.map numsV) = b from q2]
    · cases e
  · cases e
theorem msgO_inv {k : Int} {v : Val} {m : Msg} (hf : formed v = true) (h : msgO k v = some m) : msgV m = v ∧ m.kind = k ∧ m.sl.length = 32 ∧ m.head.length = 7 := by
  unfold msgO at h
  split at h
  · rename_i hk
    obtain ⟨e1, e2⟩ := three hf hk.1
    split at h
    · rename_i a b c d hd
      have hm : ∀ x ∈ [a, b, c, d], formed x = true := fun x hx => e2 x (by rw [← hd] at hx; exact List.mem_of_mem_drop hx)
      split at h
      · rename_i h1 h2 h3 h4 h5 c1 c2 c3 c4 c5
        cases h
        have q0 := manyO_inv nO_inv (v.l.take 7) h1 (fun x hx => e2 x (List.mem_of_mem_take hx)) c1
        have q1 := lO_inv nO_inv a h2 (hm a (by simp)) c2
        have q2 := lO_inv nO_inv b h3 (hm b (by simp)) c3
        have q3 := lO_inv relO_inv c h4 (hm c (by simp)) c4
        have hfd := hm d (by simp)
        unfold sealO at c5
        split at c5
        · rename_i hs
          cases c5
          have q4 : d = .mk 2 0 d.s [] := by
            rcases pure_cases hfd with ⟨n, rfl⟩ | ⟨s, rfl⟩ | ⟨l, rfl⟩
            · exact absurd hs.1 (by simp [Val.k])
            · rfl
            · exact absurd hs.1 (by simp [Val.k])
          refine ⟨?_, rfl, hs.2, ?_⟩
          · show lV (h1.map nV ++ [lV (h2.map nV), lV (h3.map nV), lV (h4.map relV), .mk 2 0 d.s []]) = v
            rw [q0, show lV (h2.map nV) = a from q1, show lV (h3.map nV) = b from q2, show lV (h4.map relV) = c from q3, ← q4, ← hd, List.take_append_drop, ← e1]
          · have := congrArg List.length q0
            rw [List.length_map, List.length_take, hk.2] at this
            exact this
        · cases c5
      · cases h
    · cases h
  · cases h
theorem formed_lV {l : List Val} (h : ∀ x ∈ l, formed x = true) : formed (lV l) = true := by
  rw [lV, formed, formedL_all]
  simp only [Bool.and_eq_true]
  exact ⟨by simp, List.all_eq_true.2 h⟩
theorem formed_nV (n : Int) : formed (nV n) = true := by rw [nV, formed, formedL]; simp
theorem formed_map {α : Type} {g : α → Val} (h : ∀ x, formed (g x) = true) (l : List α) : formed (lV (l.map g)) = true :=
  formed_lV fun x hx => by obtain ⟨y, -, rfl⟩ := List.mem_map.1 hx; exact h y
theorem formed_rel (r : Rel) : formed (relV r) = true :=
  formed_lV fun x hx => by
    rcases List.mem_cons.1 hx with rfl | hx
    · exact formed_map formed_nV _
    · rw [List.mem_singleton.1 hx]; exact formed_map (formed_map formed_nV) _
theorem formed_msg (m : Msg) : formed (msgV m) = true :=
  formed_lV fun x hx => by
    rcases List.mem_append.1 hx with hx | hx
    · obtain ⟨y, -, rfl⟩ := List.mem_map.1 hx; exact formed_nV y
    · simp only [List.mem_cons, List.not_mem_nil, or_false] at hx
      rcases hx with rfl | rfl | rfl | rfl
      · exact formed_map formed_nV _
      · exact formed_map formed_nV _
      · exact formed_map formed_rel _
      · rw [formed, formedL]; simp
end Go.Proofs.YtghjhdbmkilakaaGreatDoor

/-
  Frames, plain: a message is packed and unpacked.
  Conditions: none.
-/
namespace Go.Proofs.YtghjhdbmkilakaaGreatDoor
open Go Bf
def rightR (r : Rel) : Prop := r.out.length ≤ 64 ∧ r.inn.length = r.out.length ∧ ∀ l ∈ r.inn, l.length ≤ 64
instance (r : Rel) : Decidable (rightR r) := by unfold rightR; infer_instance
def rightM (m : Msg) : Prop := (1 ≤ m.kind ∧ m.kind ≤ 8) ∧ (0 ≤ m.head.getD 0 0 ∧ m.head.getD 0 0 ≤ 15) ∧ (0 ≤ m.head.getD 1 0 ∧ m.head.getD 1 0 ≤ 15) ∧ m.labels.length ≤ 64 ∧ m.verdicts.length ≤ 64 ∧ m.rels.length ≤ 64 ∧ ∀ r ∈ m.rels, rightR r
instance (m : Msg) : Decidable (rightM m) := by unfold rightM; infer_instance
/-- what a message of the program's type is -/
def MsgW (m : Msg) : Prop := m.sl.length = 32 ∧ m.head.length = 7 ∧ Ok64 (msgV m)
section
variable (T : List UInt8 → List UInt8)
def packF (m : Msg) : List UInt8 × Int :=
  if rightM m ∧ (enc (msgV m)).length ≤ 65536 then (encB T ⟨m.kind, enc (msgV m)⟩, 0) else ([], 470)
def bodyO (k : Int) (b : List UInt8) : Option Msg :=
  if (decF b).2 = 0 then (match msgO k (decF b).1 with
    | some m => if rightM m then some m else none
    | none => none) else none
def unpackF (b : List UInt8) : Option Msg :=
  match firstF T b with
  | some (f, n) => if n = b.length then bodyO f.kind f.body else none
  | none => none
end
theorem depth_nV (n : Int) : depth (nV n) = 0 := by rw [nV, depth, if_neg (by omega)]
theorem depth_lV (l : List Val) : depth (lV l) = depthL l + 1 := by rw [lV, depth, if_pos rfl]
theorem depth_map {α : Type} {g : α → Val} {d : Nat} (h : ∀ x, depth (g x) ≤ d) (l : List α) : depth (lV (l.map g)) ≤ d + 1 := by
  rw [depth_lV]
  have := depthL_max (l := l.map g) (m := d) fun x hx => by obtain ⟨y, -, rfl⟩ := List.mem_map.1 hx; exact h y
  omega
theorem depth_nums (l : List Int) : depth (numsV l) ≤ 1 := depth_map (d := 0) (fun x => by rw [depth_nV]; omega) l
theorem depth_rel (r : Rel) : depth (relV r) ≤ 3 := by
  rw [relV, depth_lV]
  have := depthL_max (l := [numsV r.out, lV (r.inn.map numsV)]) (m := 2) fun x hx => by
    rcases List.mem_cons.1 hx with rfl | hx
    · have := depth_nums r.out; omega
    · rw [List.mem_singleton.1 hx]; exact depth_map depth_nums _
  omega
theorem depth_msg (m : Msg) : depth (msgV m) ≤ 5 := by
  rw [msgV, depth_lV]
  have := depthL_max (l := m.head.map nV ++ [numsV m.labels, numsV m.verdicts, lV (m.rels.map relV), .mk 2 0 m.sl []]) (m := 4) fun x hx => by
    rcases List.mem_append.1 hx with hx | hx
    · obtain ⟨y, -, rfl⟩ := List.mem_map.1 hx; rw [depth_nV]; omega
    · simp only [List.mem_cons, List.not_mem_nil, or_false] at hx
      rcases hx with rfl | rfl | rfl | rfl
      · have := depth_nums m.labels; omega
      · have := depth_nums m.verdicts; omega
      · exact depth_map depth_rel _
      · rw [depth, if_neg (by omega)]; omega
  omega
theorem chk_msg (m : Msg) : chk (msgV m) = 0 := chk_zero.2 ⟨formed_msg m, by have := depth_msg m; omega⟩
section
variable {T : List UInt8 → List UInt8} (hT : ∀ b, (T b).length = 32)
theorem pack_ok {m : Msg} {x : List UInt8} (h : packF T m = (x, 0)) : rightM m ∧ okF ⟨m.kind, enc (msgV m)⟩ ∧ x = encB T ⟨m.kind, enc (msgV m)⟩ := by
  unfold packF at h
  split at h
  · rename_i c
    cases h
    exact ⟨c.1, ⟨⟨by have := c.1.1.1; show (0 : Int) ≤ m.kind; omega, by have := c.1.1.2; show m.kind ≤ 255; omega⟩, c.2⟩, rfl⟩
  · cases h
theorem body_enc {m : Msg} (hw : MsgW m) (hr : rightM m) (hl : (enc (msgV m)).length ≤ 65536) : bodyO m.kind (enc (msgV m)) = some m := by
  rw [bodyO, decF_enc (chk_msg m) hw.2.2 (by omega), if_pos rfl]
  simp only
  rw [msgO_msgV hw.1 hw.2.1]
  simp only
  rw [if_pos hr]
theorem body_inv {k : Int} {b : List UInt8} {m : Msg} (h : bodyO k b = some m) : m.kind = k ∧ rightM m ∧ MsgW m ∧ enc (msgV m) = b := by
  unfold bodyO at h
  split at h
  · rename_i c
    rcases decF_cases b with e | ⟨v, e, hv, he, ho⟩
    · rw [e] at c; cases c
    · rw [e] at h
      simp only at h
      cases e2 : msgO k v with
      | none => rw [e2] at h; cases h
      | some m' =>
        rw [e2] at h
        simp only at h
        split at h
        · rename_i hr
          cases h
          obtain ⟨q1, q2, q3, q4⟩ := msgO_inv (chk_zero.1 hv).1 e2
          exact ⟨q2, hr, ⟨q3, q4, by rw [q1]; exact ho⟩, by rw [q1]; exact he⟩
        · cases h
  · cases h
theorem unpack_inv {b : List UInt8} {m : Msg} (h : unpackF T b = some m) : packF T m = (b, 0) ∧ MsgW m := by
  unfold unpackF at h
  cases e : firstF T b with
  | none => rw [e] at h; cases h
  | some x =>
    obtain ⟨f, n⟩ := x
    rw [e] at h
    simp only at h
    split at h
    · rename_i c
      obtain ⟨g1, g2, g3, g4⟩ := first_some e
      obtain ⟨i1, i2, i3, i4⟩ := body_inv h
      rw [c, List.take_length] at g4
      refine ⟨?_, i3⟩
      have hb : (enc (msgV m)).length ≤ 65536 := by rw [i4]; exact g1.2
      rw [packF, if_pos ⟨i2, hb⟩, i1, i4, g4]
    · cases h
include hT
theorem unpack_pack {m : Msg} {x : List UInt8} (hw : MsgW m) (h : packF T m = (x, 0)) : unpackF T x = some m := by
  obtain ⟨h1, h2, rfl⟩ := pack_ok h
  have e := first_enc hT h2 []
  rw [List.append_nil] at e
  rw [unpackF, e]
  simp only [if_true]
  exact body_enc hw h1 h2.2
theorem unpack_more {m : Msg} {x y : List UInt8} (h : packF T m = (x, 0)) (hy : y ≠ []) : unpackF T (x ++ y) = none := by
  obtain ⟨h1, h2, rfl⟩ := pack_ok h
  have e := first_enc hT h2 y
  have hl : y.length ≠ 0 := fun e => hy (List.length_eq_zero_iff.1 e)
  rw [unpackF, e]
  simp only
  rw [if_neg (by rw [List.length_append]; omega)]
end
end Go.Proofs.YtghjhdbmkilakaaGreatDoor

/-
  Frames, plain: the reference unpacks: it reads whatever the value may be, and packs again.
  Conditions: none.
-/
namespace Go.Proofs.YtghjhdbmkilakaaGreatDoor
open Go Bf
def intsF (v : Val) : List Int := v.l.map Val.n
/-- the relations up to the first value that is none -/
def relsF : List Val → List Rel × Bool
  | [] => ([], true)
  | x :: l => match x.l with
    | [a, b] => (⟨intsF a, b.l.map intsF⟩ :: (relsF l).1, (relsF l).2)
    | _ => ([], false)
def sealF (v : Val) : List UInt8 := if v.s.length = 32 then v.s else List.replicate 32 0
def refM (k : Int) (v : Val) : Msg :=
  match v.l with
  | [a0, a1, a2, a3, a4, a5, a6, a, b, c, d] => ⟨k, [a0.n, a1.n, a2.n, a3.n, a4.n, a5.n, a6.n], intsF a, intsF b, (relsF c.l).1, if (relsF c.l).2 then sealF d else List.replicate 32 0⟩
  | _ => ⟨k, [0, 0, 0, 0, 0, 0, 0], [], [], [], List.replicate 32 0⟩
theorem ints_nums (l : List Int) : intsF (numsV l) = l := by
  show (l.map nV).map Val.n = l
  rw [List.map_map]
  exact List.map_id'' (fun _ => rfl) l
theorem rels_map : ∀ l : List Rel, relsF (l.map relV) = (l, true)
  | [] => rfl
  | r :: l => by
    rw [List.map_cons, relsF]
    show ((⟨intsF (numsV r.out), (r.inn.map numsV).map intsF⟩ : Rel) :: _, _) = _
    rw [rels_map l, ints_nums, List.map_map, List.map_id'' (f := intsF ∘ numsV) (fun x => ints_nums x)]
theorem refM_msgV {m : Msg} (h : m.sl.length = 32) (h7 : m.head.length = 7) : refM m.kind (msgV m) = m := by
  obtain ⟨k, hd, a, b, c, s⟩ := m
  simp only at h h7
  obtain ⟨x0, x1, x2, x3, x4, x5, x6, rfl⟩ : ∃ x0 x1 x2 x3 x4 x5 x6, hd = [x0, x1, x2, x3, x4, x5, x6] := by
    match hd, h7 with
    | [x0, x1, x2, x3, x4, x5, x6], _ => exact ⟨x0, x1, x2, x3, x4, x5, x6, rfl⟩
  show (⟨k, [x0, x1, x2, x3, x4, x5, x6], intsF (numsV a), intsF (numsV b), (relsF (c.map relV)).1, if (relsF (c.map relV)).2 = true then sealF (.mk 2 0 s []) else _⟩ : Msg) = _
  rw [ints_nums, ints_nums, rels_map, if_pos rfl]
  have : sealF (.mk 2 0 s []) = s := by rw [sealF]; exact if_pos h
  rw [this]
theorem seal_length (v : Val) : (sealF v).length = 32 := by
  unfold sealF; split
  · assumption
  · simp
theorem ok_nV {n : Int} (h : -9223372036854775808 ≤ n ∧ n ≤ 9223372036854775807) : Ok64 (nV n) := .mk h (by intro x hx; cases hx)
theorem ok_lV {l : List Val} (h : ∀ x ∈ l, Ok64 x) : Ok64 (lV l) := .mk (by omega) h
theorem ok_ints {v : Val} (h : Ok64 v) : Ok64 (numsV (intsF v)) := ok_lV fun x hx => by
  obtain ⟨n, hn, rfl⟩ := List.mem_map.1 hx
  obtain ⟨w, hw, rfl⟩ := List.mem_map.1 hn
  exact ok_nV (h.l w hw).n
theorem ok_rels : ∀ (l : List Val), (∀ x ∈ l, Ok64 x) → ∀ r ∈ (relsF l).1, Ok64 (relV r)
  | [], _, r, hr => by cases hr
  | x :: l, h, r, hr => by
    rw [relsF] at hr
    split at hr
    · rename_i a b hx
      have ha : Ok64 a := (h x (List.mem_cons_self ..)).l a (by rw [hx]; simp)
      have hb : Ok64 b := (h x (List.mem_cons_self ..)).l b (by rw [hx]; simp)
      rcases List.mem_cons.1 hr with rfl | hr
      · refine ok_lV fun y hy => ?_
        rcases List.mem_cons.1 hy with rfl | hy
        · exact ok_ints ha
        · rw [List.mem_singleton.1 hy]
          refine ok_lV fun z hz => ?_
          obtain ⟨w, hw, rfl⟩ := List.mem_map.1 hz
          obtain ⟨u, hu, rfl⟩ := List.mem_map.1 hw
          exact ok_ints (hb.l u hu)
      · exact ok_rels l (fun y hy => h y (List.mem_cons_of_mem _ hy)) r hr
    · cases hr
theorem refM_W (k : Int) {v : Val} (h : Ok64 v) : MsgW (refM k v) := by
  have hl := h.l
  unfold refM
  split
  · rename_i a0 a1 a2 a3 a4 a5 a6 a b c d hv
    rw [hv] at hl
    refine ⟨?_, rfl, ok_lV fun x hx => ?_⟩
    · show (if _ then _ else _ : List UInt8).length = 32
      split
      · exact seal_length d
      · simp
    · rcases List.mem_append.1 hx with hx | hx
      · obtain ⟨n, hn, rfl⟩ := List.mem_map.1 hx
        simp only [List.mem_cons, List.not_mem_nil, or_false] at hn
        rcases hn with rfl | rfl | rfl | rfl | rfl | rfl | rfl <;> exact ok_nV (hl _ (by simp)).n
      · simp only [List.mem_cons, List.not_mem_nil, or_false] at hx
        rcases hx with rfl | rfl | rfl | rfl
        · exact ok_ints (hl a (by simp))
        · exact ok_ints (hl b (by simp))
        · refine ok_lV fun y hy => ?_
          obtain ⟨r, hr, rfl⟩ := List.mem_map.1 hy
          exact ok_rels c.l (fun z hz => (hl c (by simp)).l z hz) r hr
        · exact .mk (by omega) (by intro z hz; cases hz)
  · refine ⟨by simp, rfl, ok_lV fun x hx => ?_⟩
    rcases List.mem_append.1 hx with hx | hx
    · obtain ⟨n, hn, rfl⟩ := List.mem_map.1 hx
      simp only [List.mem_cons, List.not_mem_nil, or_false] at hn
      rcases hn with rfl | rfl | rfl | rfl | rfl | rfl | rfl <;> exact ok_nV (by omega)
    · simp only [List.mem_cons, List.not_mem_nil, or_false] at hx
      rcases hx with rfl | rfl | rfl | rfl
      · exact ok_lV (by intro z hz; cases hz)
      · exact ok_lV (by intro z hz; cases hz)
      · exact ok_lV (by intro z hz; cases hz)
      · exact .mk (by omega) (by intro z hz; cases hz)
section
variable {T : List UInt8 → List UInt8} (hT : ∀ b, (T b).length = 32)
include hT
theorem ref_unpack (b : List UInt8) : unpackF T b = (match firstF T b with
    | some (f, n) => if n = b.length ∧ packF T (refM f.kind (decF f.body).1) = (b, 0) then some (refM f.kind (decF f.body).1) else none
    | none => none) := by
  cases e : firstF T b with
  | none => rw [unpackF, e]
  | some x =>
    obtain ⟨f, n⟩ := x
    show _ = if n = b.length ∧ packF T (refM f.kind (decF f.body).1) = (b, 0) then some (refM f.kind (decF f.body).1) else none
    by_cases c : n = b.length ∧ packF T (refM f.kind (decF f.body).1) = (b, 0)
    · rw [if_pos c]
      have ho : Ok64 (decF f.body).1 := by
        rcases decF_cases f.body with q | ⟨v, q, -, -, ho⟩
        · rw [q]; exact .mk (by omega) (by intro z hz; cases hz)
        · rw [q]; exact ho
      exact unpack_pack hT (refM_W _ ho) c.2
    · rw [if_neg c]
      cases u : unpackF T b with
      | none => rfl
      | some m =>
        exfalso
        obtain ⟨p1, p2⟩ := unpack_inv u
        rw [unpackF, e] at u
        simp only at u
        split at u
        · rename_i hn
          obtain ⟨i1, i2, i3, i4⟩ := body_inv u
          refine c ⟨hn, ?_⟩
          have hl : (enc (msgV m)).length ≤ 65536 := by rw [i4]; exact (first_some e).1.2
          rw [← i4, decF_enc (chk_msg m) p2.2.2 (by omega), ← i1]
          show packF T (refM m.kind (msgV m)) = _
          rw [refM_msgV p2.1 p2.2.1, p1]
        · cases u
end
end Go.Proofs.YtghjhdbmkilakaaGreatDoor

/-
  Frames, plain: how many bytes a message has at most.
  Conditions: none.
-/
namespace Go.Proofs.YtghjhdbmkilakaaGreatDoor
open Go Bf
theorem encL_le {K : Nat} : ∀ (l : List Val), (∀ x ∈ l, (enc x).length ≤ K) → (encL l).length ≤ l.length * K
  | [], _ => by simp [encL]
  | x :: l, h => by
    rw [encL, List.length_append, List.length_cons, Nat.add_mul]
    have h1 := h x (List.mem_cons_self ..)
    have h2 := encL_le l (fun y hy => h y (List.mem_cons_of_mem _ hy))
    omega
theorem enc_lV_le {l : List Val} {K n : Nat} (hn : l.length ≤ n) (hn2 : n < 2 ^ 64) (h : ∀ x ∈ l, (enc x).length ≤ K) : (enc (lV l)).length ≤ 11 + n * K := by
  rw [enc3 (show (lV l).k = 3 from rfl), List.length_cons, List.length_append]
  show (num l.length).length + (encL l).length + 1 ≤ _
  have h1 := num_len_le (u := l.length) (by omega)
  have h2 := encL_le l h
  have h3 : l.length * K ≤ n * K := Nat.mul_le_mul_right K hn
  omega
theorem enc_nV_le {n : Int} (h : Ok64 (nV n)) : (enc (nV n)).length ≤ 11 := by
  rw [enc1 (show (nV n).k = 1 from rfl), List.length_cons]
  have h1 := num_len_le (u := zz (nV n).n) (zz_lt h.n)
  omega
theorem enc_nums_le {l : List Int} (hl : l.length ≤ 64) (h : Ok64 (numsV l)) : (enc (numsV l)).length ≤ 715 := by
  have := enc_lV_le (l := l.map nV) (K := 11) (n := 64) (by rw [List.length_map]; exact hl) (by omega) (fun x hx => by
    have ho := h.l x hx
    obtain ⟨y, -, rfl⟩ := List.mem_map.1 hx
    exact enc_nV_le ho)
  exact this
theorem enc_rel_le {r : Rel} (hr : rightR r) (h : Ok64 (relV r)) : (enc (relV r)).length ≤ 100000 := by
  have := enc_lV_le (l := [numsV r.out, lV (r.inn.map numsV)]) (K := 45771) (n := 2) (by simp) (by omega) (fun x hx => by
    have ho := h.l x hx
    rcases List.mem_cons.1 hx with rfl | hx
    · have := enc_nums_le hr.1 ho; omega
    · rw [List.mem_singleton.1 hx] at ho ⊢
      have := enc_lV_le (l := r.inn.map numsV) (K := 715) (n := 64) (by rw [List.length_map, hr.2.1]; exact hr.1) (by omega) (fun y hy => by
        have ho2 := ho.l y hy
        obtain ⟨z, hz, rfl⟩ := List.mem_map.1 hy
        exact enc_nums_le (hr.2.2 z hz) ho2)
      omega)
  show (enc (lV [numsV r.out, lV (r.inn.map numsV)])).length ≤ _
  omega
theorem enc_msg_le {m : Msg} (hr : rightM m) (hw : MsgW m) : (enc (msgV m)).length ≤ 100000000 := by
  obtain ⟨-, -, -, h1, h2, h3, h4⟩ := hr
  obtain ⟨w1, w2, ho⟩ := hw
  have := enc_lV_le (l := m.head.map nV ++ [numsV m.labels, numsV m.verdicts, lV (m.rels.map relV), .mk 2 0 m.sl []]) (K := 6400011) (n := 11) (by simp [w2]) (by omega) (fun x hx => by
    have ho2 := ho.l x hx
    rcases List.mem_append.1 hx with hx | hx
    · obtain ⟨y, -, rfl⟩ := List.mem_map.1 hx
      have := enc_nV_le ho2; omega
    · simp only [List.mem_cons, List.not_mem_nil, or_false] at hx
      rcases hx with rfl | rfl | rfl | rfl
      · have := enc_nums_le h1 ho2; omega
      · have := enc_nums_le h2 ho2; omega
      · have := enc_lV_le (l := m.rels.map relV) (K := 100000) (n := 64) (by rw [List.length_map]; exact h3) (by omega) (fun y hy => by
          have ho3 := ho2.l y hy
          obtain ⟨z, hz, rfl⟩ := List.mem_map.1 hy
          exact enc_rel_le (h4 z hz) ho3)
        omega
      · rw [enc2 (show (Val.mk 2 0 m.sl []).k = 2 from rfl), List.length_cons, List.length_append]
        show (num m.sl.length).length + m.sl.length + 1 ≤ _
        have := num_len_le (u := m.sl.length) (by omega)
        omega)
  show (enc (lV _)).length ≤ _
  omega
end Go.Proofs.YtghjhdbmkilakaaGreatDoor

/-
  The digest: numbers of bits, halves, rotations.
  Conditions: none.
-/
namespace Go.Proofs.YtghjhdbmkilakaaGreatDoor.Dg
open Go Bf
attribute [local irreducible] Tr Exec Stab HasTy Go.Addr.add IntKind.wrap
def bl (u : Nat) : Nat := if u = 0 then 0 else Nat.log2 u + 1
theorem bl_shift {u k : Nat} (h : 2 ^ k ≤ u) : bl u = bl (u / 2 ^ k) + k := by
  have hp : 0 < 2 ^ k := Nat.two_pow_pos k
  have h0 : u ≠ 0 := by omega
  have h1 : u / 2 ^ k ≠ 0 := by
    have := Nat.div_pos h hp
    omega
  simp only [bl, if_neg h0, if_neg h1]
  have key : ∀ m, m ≤ Nat.log2 (u / 2 ^ k) ↔ m + k ≤ Nat.log2 u := fun m => by
    rw [Nat.le_log2 h1, Nat.le_log2 h0, Nat.le_div_iff_mul_le hp, Nat.pow_add]
  have : k ≤ Nat.log2 u := (Nat.le_log2 h0).2 h
  have k1 := (key (Nat.log2 (u / 2 ^ k))).1 (Nat.le_refl _)
  have k2 := (key (Nat.log2 u - k)).2 (by omega)
  omega
theorem bl_le {u : Nat} (h : u < 2 ^ 64) : bl u ≤ 64 := by
  unfold bl
  split
  · omega
  · rename_i h0
    have := (Nat.log2_lt h0).2 h
    omega
def rorw (x : UInt32) (n : Nat) : UInt32 := (x >>> UInt32.ofNat n) ||| (x <<< UInt32.ofNat (32 - n))
set_option maxHeartbeats 1000000 in
theorem rotl_fn (M : Mem) (x : UInt32) (n : Nat) (h0 : 0 < n) (h : n < 32) : Fn0 Tryz.prog 109 [.int .u32 (x.toNat : Int), .int .i64 (-(n : Int))] M (fun r M' => r = .int .u32 ((rorw x n).toNat : Int) ∧ M = M') := by
  have hw : IntKind.u64.wrap (-(n : Int)) = 18446744073709551616 - (n : Int) := by rw [IntKind.wrap_u64]; omega
  refine Fn.intro Tryz.func109 rfl rfl Tryz.ntmps109 rfl fun E F => ?_
  repeat (first | ((with_reducible refine Tr.step rfl ?_); (first | (refine xmQ (z := ?_)) | (refine xaQ (z := ?_)) | ((with_reducible refine Knd.binOp ?_); ((refine Exec.stab rfl (Stab.and64 5 rfl rfl rfl rfl (by omega) (p := 32) rfl) rfl ?_))) | ((with_reducible refine Knd.convert ?_); ((refine Exec.stab rfl (Stab.conv rfl (tysOk.get rfl) (tysOk.get rfl) rfl rfl) rfl ?_))))) | (with_reducible first | apply Tr.next | apply Tr.seq | apply Tr.region | apply Tr.nil))
  rw [hw]
  repeat (fail)
  refine Tr.step rfl ?_
  refine Exec.stab rfl (Stab.shlw (32 - n) rfl rfl (by omega) (by omega)) rfl ?_
  repeat (((with_reducible refine Tr.step rfl ?_); (first | (refine xmQ (z := ?_)) | ((with_reducible refine Knd.binOp ?_); ((refine Exec.stab rfl (Stab.subu64 rfl rfl (by omega)) rfl ?_))))))
  refine Tr.step rfl ?_
  refine Exec.stab rfl (Stab.shrw n rfl rfl (by omega) (by omega)) rfl ?_
  repeat (first | ((with_reducible refine Tr.step rfl ?_); (first | (refine xaQ (z := ?_)) | ((with_reducible refine Knd.binOp ?_); ((refine Exec.stab rfl (Stab.orw rfl rfl) rfl ?_))))) | (with_reducible first | apply Tr.next | apply Tr.nil | apply Tr.ret))
  (refine dnQ (hL := by exact ⟨[], rfl⟩) (k := ⟨rfl, ?_⟩))
  exact ⟨by rw [rorw, UInt32.or_comm]; rfl, rfl⟩
set_option maxHeartbeats 1000000 in
theorem ror_fn (M : Mem) (x : UInt32) (n : Nat) (h0 : 0 < n) (h : n < 32) : Fn0 Tryz.prog 104 [.int .u32 (x.toNat : Int), .int .i64 (n : Int)] M (fun r M' => r = .int .u32 ((rorw x n).toNat : Int) ∧ M = M') := by
  refine Fn.intro Tryz.func104 rfl rfl Tryz.ntmps104 rfl fun E F => ?_
  repeat (first | ((with_reducible refine Tr.step rfl ?_); (first | (refine xmQ (z := ?_)) | (refine xaQ (z := ?_)) | ((with_reducible refine Knd.unOp ?_); ((refine Exec.stab rfl (Stab.neg rfl (by omega)) rfl ?_))))) | (with_reducible first | apply Tr.next | apply Tr.seq | apply Tr.region | apply Tr.nil))
  ((refine Tr.step rfl ?_)); refine Exec.call0 rfl (rotl_fn M x n h0 h) rfl ?_
  rintro _ _ _ ⟨rfl, rfl⟩
  repeat (first | ((with_reducible refine Tr.step rfl ?_); ((refine xaQ (z := ?_)))) | (with_reducible first | apply Tr.next | apply Tr.nil | apply Tr.ret))
  (refine dnQ (hL := by exact ⟨[], rfl⟩) (k := ⟨rfl, ?_⟩))
  exact ⟨rfl, rfl⟩
set_option maxHeartbeats 1000000 in
theorem rror_fn (M : Mem) (x : UInt32) (n : Nat) (h0 : 0 < n) (h : n < 32) : Fn0 Tryz.prog 111 [.int .u32 (x.toNat : Int), .int .i64 (n : Int)] M (fun r M' => r = .int .u32 ((rorw x n).toNat : Int) ∧ M = M') := by
  refine Fn.intro Tryz.func111 rfl rfl Tryz.ntmps111 rfl fun E F => ?_
  repeat (first | ((with_reducible refine Tr.step rfl ?_); ((refine xaQ (z := ?_)))) | (with_reducible first | apply Tr.next | apply Tr.seq | apply Tr.region | apply Tr.nil))
  (((apply Tr.draw); (kernel_rfl)); (refine tkQ 0 (hB := by first | exact fun _ h => h | (intro r h; cases h; done) | exact (Sub.mem (by repeat (first | exact Sub.refl | apply Sub.cons)))) (s := by exact Stab.move rfl) (h := ?_)); (refine tkQ 1 (s := by exact Stab.move rfl) (h := ?_)); ((refine tkQ 2 (s := (Stab.shrw n rfl rfl rfl (by omega))) (h := ?_))); (refine tkQ 3 (s := by exact Stab.move rfl) (h := ?_)); (refine tkQ 4 (s := by exact Stab.move rfl) (h := ?_)); (refine tkQ 5 (s := by exact Stab.subi rfl rfl (by omega)) (h := ?_)); ((refine tkQ 6 (s := (Stab.shlw (32 - n) rfl rfl (by omega) (by omega))) (h := ?_))); (refine tkQ 7 (s := by exact Stab.orw rfl rfl) (h := ?_)); (refine tkQ 8 (s := by exact Stab.assign rfl) (h := ?_)); (refine TrA.done (by kernel_rfl) ?_))
  repeat (first | (with_reducible first | apply Tr.next | apply Tr.ret))
  (refine dnQ (hL := by exact ⟨[], rfl⟩) (k := ⟨rfl, ?_⟩))
  exact ⟨rfl, rfl⟩
end Go.Proofs.YtghjhdbmkilakaaGreatDoor.Dg

/-
  The digest: SHA-256 as a function of lists of words.
  Conditions: none; plain Lean.
-/
namespace Go.Proofs.YtghjhdbmkilakaaGreatDoor.Dg
open Go Bf
def Kw : List UInt32 := [1116352408, 1899447441, 3049323471, 3921009573, 961987163, 1508970993, 2453635748, 2870763221, 3624381080, 310598401, 607225278, 1426881987, 1925078388, 2162078206, 2614888103, 3248222580, 3835390401, 4022224774, 264347078, 604807628, 770255983, 1249150122, 1555081692, 1996064986, 2554220882, 2821834349, 2952996808, 3210313671, 3336571891, 3584528711, 113926993, 338241895, 666307205, 773529912, 1294757372, 1396182291, 1695183700, 1986661051, 2177026350, 2456956037, 2730485921, 2820302411, 3259730800, 3345764771, 3516065817, 3600352804, 4094571909, 275423344, 430227734, 506948616, 659060556, 883997877, 958139571, 1322822218, 1537002063, 1747873779, 1955562222, 2024104815, 2227730452, 2361852424, 2428436474, 2756734187, 3204031479, 3329325298]
def Hw : List UInt32 := [1779033703, 3144134277, 1013904242, 2773480762, 1359893119, 2600822924, 528734635, 1541459225]
theorem Kw_length : Kw.length = 64 := by kernel_rfl
/-- a word that is put together out of bytes, so many of them -/
def acc (bs : List UInt8) (t : Nat) : Nat → UInt32
  | 0 => 0
  | i + 1 => (acc bs t i <<< UInt32.ofNat 8) ||| (bs.getD (4 * t + i) 0).toUInt32
/-- the first words of a block -/
def ws1 (bs : List UInt8) (t : Nat) : List UInt32 := (List.range t).map fun s => acc bs s 4
/-- one word more -/
def nxt (l : List UInt32) : UInt32 :=
  let n := l.length
  let x := l.getD (n - 15) 0
  let y := l.getD (n - 2) 0
  l.getD (n - 16) 0 + (rorw x 7 ^^^ rorw x 18 ^^^ (x >>> UInt32.ofNat 3)) + l.getD (n - 7) 0 + (rorw y 17 ^^^ rorw y 19 ^^^ (y >>> UInt32.ofNat 10))
def ws2 (bs : List UInt8) : Nat → List UInt32
  | 0 => ws1 bs 16
  | j + 1 => ws2 bs j ++ [nxt (ws2 bs j)]
theorem ws1_length (bs : List UInt8) (t : Nat) : (ws1 bs t).length = t := by simp [ws1]
theorem ws1_succ (bs : List UInt8) (t : Nat) : ws1 bs (t + 1) = ws1 bs t ++ [acc bs t 4] := by simp [ws1, List.range_succ]
theorem ws2_length (bs : List UInt8) (j : Nat) : (ws2 bs j).length = 16 + j := by
  induction j with
  | zero => exact ws1_length bs 16
  | succ j ih => rw [ws2, List.length_append, ih]; rfl
structure W8 where
  a : UInt32
  b : UInt32
  c : UInt32
  d : UInt32
  e : UInt32
  f : UInt32
  g : UInt32
  h : UInt32
def W8.l (x : W8) : List UInt32 := [x.a, x.b, x.c, x.d, x.e, x.f, x.g, x.h]
def W8.of (l : List UInt32) : W8 := ⟨l.getD 0 0, l.getD 1 0, l.getD 2 0, l.getD 3 0, l.getD 4 0, l.getD 5 0, l.getD 6 0, l.getD 7 0⟩
def pw (x : W8) (k w : UInt32) : UInt32 := x.h + (rorw x.e 6 ^^^ rorw x.e 11 ^^^ rorw x.e 25) + ((x.e &&& x.f) ^^^ (~~~x.e &&& x.g)) + k + w
def qw (x : W8) : UInt32 := (rorw x.a 2 ^^^ rorw x.a 13 ^^^ rorw x.a 22) + ((x.a &&& x.b) ^^^ (x.a &&& x.c) ^^^ (x.b &&& x.c))
def rnd (x : W8) (k w : UInt32) : W8 := ⟨pw x k w + qw x, x.a, x.b, x.c, x.d + pw x k w, x.e, x.f, x.g⟩
def rnds (ws : List UInt32) (x : W8) : Nat → W8
  | 0 => x
  | t + 1 => rnd (rnds ws x t) (Kw.getD t 0) (ws.getD t 0)
/-- the state after a block -/
def blkF (st : List UInt32) (bs : List UInt8) : List UInt32 := List.zipWith (· + ·) st (rnds (ws2 bs 48) (W8.of st) 64).l
theorem blkF_length {st : List UInt32} (bs : List UInt8) (h : st.length = 8) : (blkF st bs).length = 8 := by simp [blkF, h, W8.l]
theorem take_set_succ {α : Type} {l : List α} {i : Nat} (v : α) (h : i < l.length) : (l.set i v).take (i + 1) = l.take i ++ [v] := by
  rw [List.take_add_one, List.take_set_of_le (Nat.le_refl _), List.getElem?_set_self h]
  rfl
theorem wV_getD {l : List UInt32} {i : Nat} (h : i < l.length) : nthL (wV l) i = some (.int .u32 ((l.getD i 0).toNat : Int)) := by
  refine wV_get ?_
  rw [List.getD_eq_getElem?_getD, List.getElem?_eq_getElem h]
  rfl
theorem getD_take {l m : List UInt32} {n i : Nat} (h : l.take n = m) (hi : i < n) : l.getD i 0 = m.getD i 0 := by
  subst h
  rw [List.getD_eq_getElem?_getD, List.getD_eq_getElem?_getD, List.getElem?_take, if_pos hi]
/-- where words lie in immutable memory -/
theorem at_word {M : Mem} {g : Nat} {l : List UInt32} (h : At M ⟨g, 0, none⟩ (wV l)) {t : Nat} (ht : t < l.length) : ∃ cs, At M ⟨g, t, none⟩ (.int .u32 ((l.getD t 0).toNat : Int) :: cs) := by
  have := h.drop t
  rw [Addr.add_lit, Nat.zero_add] at this
  have e : (wV l).drop t = .int .u32 ((l.getD t 0).toNat : Int) :: (wV l).drop (t + 1) := by
    rw [List.drop_eq_getElem_cons (by simpa using ht)]
    simp [wV, ht]
  rw [e] at this
  exact ⟨_, this⟩
end Go.Proofs.YtghjhdbmkilakaaGreatDoor.Dg

/-
  The digest: the contract of absorb.
  Conditions: none.
-/
namespace Go.Proofs.YtghjhdbmkilakaaGreatDoor.Dg
open Go Bf
attribute [local irreducible] Tr Exec Stab HasTy Go.Addr.add IntKind.wrap
set_option maxHeartbeats 8000000 in
set_option maxRecDepth 20000 in
theorem absorb_fn (M : Mem) (hK : At M ⟨0, 0, none⟩ (wV Kw)) (ps : Nat) (st : List UInt32) (hst : st.length = 8) (A : Option Addr) (c : Nat) (bs : List UInt8) (hb : BSl M (.slice A 64 c) bs) (hbl : bs.length = 64) :
    Bf.Fn Tryz.prog 69 [.pointer (some ⟨ps, 0, none⟩), .slice A 64 c] M [box ps 118 (wV st)] (fun _ M' A' => M = M' ∧ A' = [box ps 118 (wV (blkF st bs))]) := by
  refine Fn.intro Tryz.func69 rfl rfl Tryz.ntmps69 rfl fun E F => ?_
  repeat (first | ((with_reducible refine Tr.step rfl ?_); (first | (refine xmQ (z := ?_)) | ((with_reducible refine Knd.alloc ?_); ((refine Exec.alloc (tysOk.get rfl) rfl rfl (fun b => ?_)))))) | (with_reducible first | apply Tr.next | apply Tr.seq | apply Tr.region | apply Tr.nil | apply Tr.block))
  refine Tr.cells (cs' := wV (List.replicate 64 0)) (by repeat (first | exact Upd.here | apply Upd.there)) (by kernel_rfl) ?_
  refine Tr.loop (α := Nat × List UInt32) (fun y => ⟨205, [(23, .int .i64 y.1), (4, .pointer (some ⟨b, 0, none⟩)), (0, .pointer (some ⟨ps, 0, none⟩)), (1, .slice A 64 c)], [], M, box b 139 (wV y.2) :: box ps 118 (wV st) :: ([] ++ F)⟩)
    (fun y => y.1 ≤ 16 ∧ y.2.length = 64 ∧ y.2.take y.1 = ws1 bs y.1 ∧ ∀ i, y.1 ≤ i → y.2.getD i 0 = 0) (fun y => 16 - y.1) (0, List.replicate 64 0) ⟨by simp, by simp, by simp [ws1], fun i _ => by rw [List.getD_eq_getElem?_getD, List.getElem?_replicate]; split <;> rfl⟩ hsQ (fun y hy => ?_)
  obtain ⟨t, ws⟩ := y
  obtain ⟨h1, h2, h3, h4⟩ := hy
  simp only at h1 h2 h3 h4
  dsimp only
  by_cases ht : t < 16
  · repeat (first | ((with_reducible refine Tr.step rfl ?_); (first | (refine xmQ (z := ?_)) | (refine xaQ (z := ?_)) | (refine xiQ (z := ?_)))) | (with_reducible first | apply Tr.next | apply Tr.seq | apply Tr.region | apply Tr.nil | apply Tr.skip | apply Tr.block) | (refine Tr.cond_t rfl (by first | (with_reducible assumption) | omega) ?_))
    refine Tr.loop (α := Nat × List UInt32) (fun y => ⟨205, [(26, .int .i64 y.1), (5, .int .i64 t), (23, .int .i64 t), (4, .pointer (some ⟨b, 0, none⟩)), (0, .pointer (some ⟨ps, 0, none⟩)), (1, .slice A 64 c)], [], M, box b 139 (wV y.2) :: box ps 118 (wV st) :: ([] ++ F)⟩)
      (fun y => y.1 ≤ 4 ∧ y.2.length = 64 ∧ y.2.take t = ws1 bs t ∧ y.2.getD t 0 = acc bs t y.1 ∧ ∀ i, t + 1 ≤ i → y.2.getD i 0 = 0) (fun y => 4 - y.1) (0, ws) ⟨by simp, h2, h3, h4 t (Nat.le_refl _), fun i hi => h4 i (by omega)⟩ hsQ (fun y hy => ?_)
    obtain ⟨i, ws⟩ := y
    obtain ⟨k1, k2, k3, k4, k5⟩ := hy
    simp only at k1 k2 k3 k4 k5
    dsimp only
    have hwl : (wV ws).length = 64 := by simpa using k2
    by_cases hi : i < 4
    · obtain ⟨x, hx⟩ := get_of_lt (show 4 * t + i < bs.length by omega)
      obtain ⟨hA, hat⟩ := hb.byte hx
      have hg := wV_getD (l := ws) (i := t) (by omega)
      have hidx : 4 * (t : Int) + (i : Int) = ((4 * t + i : Nat) : Int) := by omega
      repeat (first | ((with_reducible refine Tr.step rfl ?_); (first | (refine xmQ (z := ?_)) | (refine xaQ (z := ?_)) | (refine xiQ (z := ?_)))) | (with_reducible first | apply Tr.next | apply Tr.seq | apply Tr.region | apply Tr.nil | apply Tr.skip | apply Tr.block) | (refine Tr.cond_t rfl (by first | (with_reducible assumption) | omega) ?_))
      (((apply Tr.draw); (kernel_rfl)); (refine tkQ 0 (hB := by exact fun _ h => h) (s := by exact Stab.move rfl) (h := ?_)); (refine tkQ 1 (s := by exact Stab.move rfl) (h := ?_)); (refine tkQ 5 (s := by exact Stab.move rfl) (h := ?_)); (refine tkQ 6 (s := by exact Stab.move rfl) (h := ?_)); (refine tkQ 8 (s := by exact Stab.move rfl) (h := ?_)); (refine tkQ 2 (s := by exact Stab.indexArrB0 rfl rfl (tysOk.get rfl) rfl (tysOk.get rfl) rfl (by omega) (by omega)) (h := ?_)); (refine tkQ 7 (s := by exact Stab.muli rfl rfl (by omega)) (h := ?_)); (refine tkQ 3 (s := by exact Stab.load rfl (tysOk.get rfl) rfl (by repeat (first | exact Has.here | apply Has.there)) (by assumption)) (h := ?_)); (refine tkQ 9 (s := by exact Stab.addi rfl rfl (by omega)) (h := ?_)))
      rw [hidx]
      ((refine tkQ 4 (s := by exact Stab.shlw 8 rfl rfl rfl (by decide)) (h := ?_)); (refine tkQ 10 (s := by exact sxQ) (h := ?_)); (refine tkQ 11 (s := by exact sMQ) (h := ?_)); (refine tkQ 12 (s := by exact Stab.byteW rfl (tysOk.get rfl) (tysOk.get rfl) rfl rfl) (h := ?_)); (refine tkQ 13 (s := by exact Stab.orw rfl rfl) (h := ?_)); (refine tkQ 14 (s := by exact Stab.indexArrB0 rfl rfl (tysOk.get rfl) rfl (tysOk.get rfl) rfl (by omega) (by omega)) (h := ?_)); (refine TrA.effD 15 rfl (by kernel_rfl) (by kernel_rfl) (by exact .inl rfl) ?_))
      refine Exec.storeS rfl rfl (tysOk.get rfl) rfl rfl (by repeat (first | exact Upd.here | apply Upd.there)) (by rw [hwl]; omega) ?_
      refine ⟨_, fun _ h => h, ?_⟩
      ((refine TrA.done (by kernel_rfl) ?_))
      rw [show (wV ws).set (Int.toNat (t : Int)) (.int .u32 ((((ws.getD t 0) <<< UInt32.ofNat 8) ||| x.toUInt32).toNat : Int)) = wV (ws.set t (((ws.getD t 0) <<< UInt32.ofNat 8) ||| x.toUInt32)) from wV_set _ _ _]
      repeat (first | ((with_reducible refine Tr.step rfl ?_); (first | (refine xmQ (z := ?_)) | (refine xdQ (z := ?_)))) | (with_reducible first | apply Tr.next | apply Tr.region | apply Tr.nil | apply Tr.in_normal))
      have hxd : bs.getD (4 * t + i) 0 = x := by rw [List.getD_eq_getElem?_getD, hx]; rfl
      refine Tr.again (i + 1, ws.set t (((ws.getD t 0) <<< UInt32.ofNat 8) ||| x.toUInt32)) ⟨by simp only; omega, by simpa using k2, ?_, ?_, ?_⟩ (by simp only; omega) hsQ
      · simp only
        rw [List.take_set_of_le (Nat.le_refl _)]; exact k3
      · simp only
        rw [List.getD_eq_getElem?_getD, List.getElem?_set_self (by omega), k4]
        rw [acc, hxd]; rfl
      · intro j hj
        simp only
        rw [List.getD_eq_getElem?_getD, List.getElem?_set_ne (by omega), ← List.getD_eq_getElem?_getD]
        exact k5 j hj
    · have e : i = 4 := by omega
      subst e
      repeat (first | ((with_reducible refine Tr.step rfl ?_); (first | (refine xmQ (z := ?_)) | ((with_reducible refine Knd.binOp ?_); (first | (refine xdQ (z := ?_)) | (refine xiQ (z := ?_)))))) | (with_reducible first | apply Tr.next | apply Tr.seq | apply Tr.region | apply Tr.nil | apply Tr.exit | apply Tr.then_exit | apply Tr.in_normal) | ((with_reducible refine Tr.in_exit ?_ ?_); (exact rfl)) | (refine Tr.cond_f rfl (by first | (with_reducible assumption) | omega) ?_))
      refine Tr.again (t + 1, ws) ⟨by simp only; omega, k2, ?_, fun j hj => k5 j hj⟩ (by simp only; omega) hsQ
      simp only
      rw [List.take_add_one, k3, ws1_succ, ← k4, List.getD_eq_getElem?_getD, List.getElem?_eq_getElem (by omega)]
      rfl
  have e : t = 16 := by omega
  subst e
  clear h1 h4 ht
  repeat (first | ((with_reducible refine Tr.step rfl ?_); (first | (refine xaQ (z := ?_)) | (refine xiQ (z := ?_)))) | (with_reducible first | apply Tr.next | apply Tr.seq | apply Tr.region | apply Tr.nil | apply Tr.block | apply Tr.exit | apply Tr.then_exit) | ((with_reducible refine Tr.in_exit ?_ ?_); (exact rfl)) | (refine Tr.cond_f rfl (by omega) ?_))
  refine Tr.loop (α := Nat × List UInt32) (fun y => ⟨205, [(7, .int .i64 ((16 + y.1 : Nat) : Int)), (4, .pointer (some ⟨b, 0, none⟩)), (0, .pointer (some ⟨ps, 0, none⟩))], [], M, box b 139 (wV y.2) :: box ps 118 (wV st) :: ([] ++ F)⟩)
    (fun y => y.1 ≤ 48 ∧ y.2.length = 64 ∧ y.2.take (16 + y.1) = ws2 bs y.1) (fun y => 48 - y.1) (0, ws) ⟨by simp, h2, h3⟩ hsQ (fun y hy => ?_)
  clear h2 h3
  obtain ⟨j, ws⟩ := y
  obtain ⟨h1, h2, h3⟩ := hy
  simp only at h1 h2 h3
  dsimp only
  have hwl : (wV ws).length = 64 := by simpa using h2
  by_cases hj : j < 48
  · have g16 := wV_getD (l := ws) (i := j) (by omega)
    have g15 := wV_getD (l := ws) (i := j + 1) (by omega)
    have g7 := wV_getD (l := ws) (i := j + 9) (by omega)
    have g2 := wV_getD (l := ws) (i := j + 14) (by omega)
    have e16 : ((16 + j : Nat) : Int) - 16 = ((j : Nat) : Int) := by omega
    have e15 : ((16 + j : Nat) : Int) - 15 = ((j + 1 : Nat) : Int) := by omega
    have e7 : ((16 + j : Nat) : Int) - 7 = ((j + 9 : Nat) : Int) := by omega
    have e2 : ((16 + j : Nat) : Int) - 2 = ((j + 14 : Nat) : Int) := by omega
    repeat (first | ((with_reducible refine Tr.step rfl ?_); (first | (refine xmQ (z := ?_)) | (refine xiQ (z := ?_)))) | (with_reducible first | apply Tr.next | apply Tr.seq | apply Tr.region | apply Tr.nil | apply Tr.skip | apply Tr.block) | (refine Tr.cond_t rfl (by first | (with_reducible assumption) | omega) ?_))
    (((apply Tr.draw); (kernel_rfl)); (refine tkQ 0 (hB := by exact fun _ h => h) (s := by exact Stab.move rfl) (h := ?_)); (refine tkQ 4 (s := by exact Stab.move rfl) (h := ?_)); (refine tkQ 1 (s := by exact Stab.subi rfl rfl (by omega)) (h := ?_)); (refine tkQ 5 (s := by exact Stab.subi rfl rfl (by omega)) (h := ?_)))
    rw [e15, e2]
    ((refine tkQ 2 (s := by exact Stab.indexArrB0 rfl rfl (tysOk.get rfl) rfl (tysOk.get rfl) rfl (by omega) (by omega)) (h := ?_)); (refine tkQ 6 (s := by exact Stab.indexArrB0 rfl rfl (tysOk.get rfl) rfl (tysOk.get rfl) rfl (by omega) (by omega)) (h := ?_)); (refine tkQ 3 (s := by exact Stab.load rfl (tysOk.get rfl) rfl (by repeat (first | exact Has.here | apply Has.there)) (by assumption)) (h := ?_)); (refine tkQ 7 (s := by exact Stab.load rfl (tysOk.get rfl) rfl (by repeat (first | exact Has.here | apply Has.there)) (by assumption)) (h := ?_)); (refine tkQ 8 (s := by exact Stab.assign rfl) (h := ?_)); (refine tkQ 9 (s := by exact Stab.assign rfl) (h := ?_)); (refine TrA.done (by kernel_rfl) ?_))
    generalize hX : ws.getD (j + 1) 0 = X
    generalize hY : ws.getD (j + 14) 0 = Y
    repeat ((with_reducible refine Tr.next ?_))
    (((apply Tr.draw); (kernel_rfl)); (refine tkQ 0 (hB := by exact fun _ h => h) (s := by exact Stab.move rfl) (h := ?_)); (refine tkQ 1 (s := by exact Stab.move rfl) (h := ?_)); (refine tkQ 5 (s := by exact Stab.move rfl) (h := ?_)); (refine tkQ 7 (s := by exact Stab.move rfl) (h := ?_)); (refine tkQ 10 (s := by exact Stab.move rfl) (h := ?_)); (refine tkQ 14 (s := by exact Stab.move rfl) (h := ?_)); (refine tkQ 19 (s := by exact Stab.move rfl) (h := ?_)); (refine tkQ 21 (s := by exact Stab.move rfl) (h := ?_)); (refine tkQ 24 (s := by exact Stab.move rfl) (h := ?_)); (refine tkQ 2 (s := by exact Stab.subi rfl rfl (by omega)) (h := ?_)); (refine tkQ 11 (s := by exact Stab.shrw 3 rfl rfl rfl (by decide)) (h := ?_)); (refine tkQ 15 (s := by exact Stab.subi rfl rfl (by omega)) (h := ?_)); (refine tkQ 25 (s := by exact Stab.shrw 10 rfl rfl rfl (by decide)) (h := ?_)))
    rw [e16, e7]
    ((refine tkQ 3 (s := by exact Stab.indexArrB0 rfl rfl (tysOk.get rfl) rfl (tysOk.get rfl) rfl (by omega) (by omega)) (h := ?_)); (refine tkQ 16 (s := by exact Stab.indexArrB0 rfl rfl (tysOk.get rfl) rfl (tysOk.get rfl) rfl (by omega) (by omega)) (h := ?_)); (refine tkQ 4 (s := by exact Stab.load rfl (tysOk.get rfl) rfl (by repeat (first | exact Has.here | apply Has.there)) (by assumption)) (h := ?_)); (refine tkQ 17 (s := by exact Stab.load rfl (tysOk.get rfl) rfl (by repeat (first | exact Has.here | apply Has.there)) (by assumption)) (h := ?_)); (refine TrA.eff 6 rfl (by kernel_rfl) (by exact .inl rfl) ?_))
    refine Exec.call0 rfl (ror_fn M X 7 (by omega) (by omega)) rfl ?_
    rintro _ _ _ ⟨rfl, rfl⟩
    refine ⟨Mem.le.refl _, (by exact fun _ h => h), ?_⟩
    ((refine TrA.eff 8 rfl (by kernel_rfl) (by exact .inl rfl) ?_))
    refine Exec.call0 rfl (ror_fn M X 18 (by omega) (by omega)) rfl ?_
    rintro _ _ _ ⟨rfl, rfl⟩
    refine ⟨Mem.le.refl _, (by exact fun _ h => h), ?_⟩
    ((refine tkQ 9 (s := by exact Stab.xorw rfl rfl) (h := ?_)); (refine tkQ 12 (s := by exact Stab.xorw rfl rfl) (h := ?_)); (refine tkQ 13 (s := by exact Stab.addw rfl rfl) (h := ?_)); (refine tkQ 18 (s := by exact Stab.addw rfl rfl) (h := ?_)); (refine TrA.eff 20 rfl (by kernel_rfl) (by exact .inl rfl) ?_))
    refine Exec.call0 rfl (ror_fn M Y 17 (by omega) (by omega)) rfl ?_
    rintro _ _ _ ⟨rfl, rfl⟩
    refine ⟨Mem.le.refl _, (by exact fun _ h => h), ?_⟩
    ((refine TrA.eff 22 rfl (by kernel_rfl) (by exact .inl rfl) ?_))
    refine Exec.call0 rfl (ror_fn M Y 19 (by omega) (by omega)) rfl ?_
    rintro _ _ _ ⟨rfl, rfl⟩
    refine ⟨Mem.le.refl _, (by exact fun _ h => h), ?_⟩
    ((refine tkQ 23 (s := by exact Stab.xorw rfl rfl) (h := ?_)); (refine tkQ 26 (s := by exact Stab.xorw rfl rfl) (h := ?_)); (refine tkQ 27 (s := by exact Stab.addw rfl rfl) (h := ?_)); (refine tkQ 28 (s := by exact Stab.indexArrB0 rfl rfl (tysOk.get rfl) rfl (tysOk.get rfl) rfl (by omega) (by omega)) (h := ?_)); (refine TrA.effD 29 rfl (by kernel_rfl) (by kernel_rfl) (by exact .inl rfl) ?_))
    refine Exec.storeS rfl rfl (tysOk.get rfl) rfl rfl (by repeat (first | exact Upd.here | apply Upd.there)) (by rw [hwl]; omega) ?_
    refine ⟨_, fun _ h => h, ?_⟩
    ((refine TrA.done (by kernel_rfl) ?_))
    generalize hV : ws.getD j 0 + (rorw X 7 ^^^ rorw X 18 ^^^ X >>> UInt32.ofNat 3) + ws.getD (j + 9) 0 + (rorw Y 17 ^^^ rorw Y 19 ^^^ Y >>> UInt32.ofNat 10) = V
    rw [show (wV ws).set (Int.toNat ((16 + j : Nat) : Int)) (.int .u32 (V.toNat : Int)) = wV (ws.set (16 + j) V) from wV_set _ _ _]
    repeat (first | ((with_reducible refine Tr.step rfl ?_); (first | (refine xmQ (z := ?_)) | (refine xaQ (z := ?_)) | (refine xdQ (z := ?_)))) | (with_reducible first | apply Tr.next | apply Tr.region | apply Tr.nil | apply Tr.in_normal))
    rw [show ((16 + j : Nat) : Int) + 1 = ((16 + (j + 1) : Nat) : Int) by omega]
    repeat (fail)
    refine Tr.again (j + 1, ws.set (16 + j) V) ⟨by simp only; omega, by simpa using h2, ?_⟩ (by simp only; omega) hsQ
    simp only
    rw [← Nat.add_assoc, take_set_succ _ (by omega), h3, ws2, ← hV, ← hX, ← hY]
    congr 2
    rw [nxt]
    simp only [ws2_length]
    rw [getD_take h3 (by omega), getD_take h3 (by omega), getD_take h3 (by omega), getD_take h3 (by omega)]
    rw [show 16 + j - 15 = j + 1 by omega, show 16 + j - 2 = j + 14 by omega, show 16 + j - 16 = j by omega, show 16 + j - 7 = j + 9 by omega]
  have e : j = 48 := by omega
  subst e
  have hws : ws = ws2 bs 48 := by rw [← h3, List.take_of_length_le (by omega)]
  clear h1 h3 hj hwl
  have s0 := wV_getD (l := st) (i := 0) (by omega)
  have s1 := wV_getD (l := st) (i := 1) (by omega)
  have s2 := wV_getD (l := st) (i := 2) (by omega)
  have s3 := wV_getD (l := st) (i := 3) (by omega)
  have s4 := wV_getD (l := st) (i := 4) (by omega)
  have s5 := wV_getD (l := st) (i := 5) (by omega)
  have s6 := wV_getD (l := st) (i := 6) (by omega)
  have s7 := wV_getD (l := st) (i := 7) (by omega)
  repeat (first | ((with_reducible refine Tr.step rfl ?_); (first | (refine xmQ (z := ?_)) | (refine xiQ (z := ?_)))) | (with_reducible first | apply Tr.next | apply Tr.seq | apply Tr.region | apply Tr.nil | apply Tr.exit | apply Tr.then_exit) | ((with_reducible refine Tr.in_exit ?_ ?_); (exact rfl)) | (refine Tr.cond_f rfl (by omega) ?_))
  (((apply Tr.draw); (kernel_rfl)); (refine tkQ 0 (hB := by exact fun _ h => h) (s := by exact Stab.move rfl) (h := ?_)); (refine tkQ 4 (s := by exact Stab.move rfl) (h := ?_)); (refine tkQ 8 (s := by exact Stab.move rfl) (h := ?_)); (refine tkQ 12 (s := by exact Stab.move rfl) (h := ?_)); (refine tkQ 16 (s := by exact Stab.move rfl) (h := ?_)); (refine tkQ 20 (s := by exact Stab.move rfl) (h := ?_)); (refine tkQ 24 (s := by exact Stab.move rfl) (h := ?_)); (refine tkQ 28 (s := by exact Stab.move rfl) (h := ?_)); (refine tkQ 1 (s := by exact Stab.nilCheck rfl) (h := ?_)); (refine tkQ 5 (s := by exact Stab.nilCheck rfl) (h := ?_)); (refine tkQ 9 (s := by exact Stab.nilCheck rfl) (h := ?_)); (refine tkQ 13 (s := by exact Stab.nilCheck rfl) (h := ?_)); (refine tkQ 17 (s := by exact Stab.nilCheck rfl) (h := ?_)); (refine tkQ 21 (s := by exact Stab.nilCheck rfl) (h := ?_)); (refine tkQ 25 (s := by exact Stab.nilCheck rfl) (h := ?_)); (refine tkQ 29 (s := by exact Stab.nilCheck rfl) (h := ?_)); (refine tkQ 2 (s := by exact Stab.indexArrB0 rfl rfl (tysOk.get rfl) rfl (tysOk.get rfl) rfl (by omega) (by omega)) (h := ?_)); (refine tkQ 6 (s := by exact Stab.indexArrB0 rfl rfl (tysOk.get rfl) rfl (tysOk.get rfl) rfl (by omega) (by omega)) (h := ?_)); (refine tkQ 10 (s := by exact Stab.indexArrB0 rfl rfl (tysOk.get rfl) rfl (tysOk.get rfl) rfl (by omega) (by omega)) (h := ?_)); (refine tkQ 14 (s := by exact Stab.indexArrB0 rfl rfl (tysOk.get rfl) rfl (tysOk.get rfl) rfl (by omega) (by omega)) (h := ?_)); (refine tkQ 18 (s := by exact Stab.indexArrB0 rfl rfl (tysOk.get rfl) rfl (tysOk.get rfl) rfl (by omega) (by omega)) (h := ?_)); (refine tkQ 22 (s := by exact Stab.indexArrB0 rfl rfl (tysOk.get rfl) rfl (tysOk.get rfl) rfl (by omega) (by omega)) (h := ?_)); (refine tkQ 26 (s := by exact Stab.indexArrB0 rfl rfl (tysOk.get rfl) rfl (tysOk.get rfl) rfl (by omega) (by omega)) (h := ?_)); (refine tkQ 30 (s := by exact Stab.indexArrB0 rfl rfl (tysOk.get rfl) rfl (tysOk.get rfl) rfl (by omega) (by omega)) (h := ?_)); (refine tkQ 3 (s := by exact Stab.load rfl (tysOk.get rfl) rfl (by repeat (first | exact Has.here | apply Has.there)) (by assumption)) (h := ?_)); (refine tkQ 7 (s := by exact Stab.load rfl (tysOk.get rfl) rfl (by repeat (first | exact Has.here | apply Has.there)) (by assumption)) (h := ?_)); (refine tkQ 11 (s := by exact Stab.load rfl (tysOk.get rfl) rfl (by repeat (first | exact Has.here | apply Has.there)) (by assumption)) (h := ?_)); (refine tkQ 15 (s := by exact Stab.load rfl (tysOk.get rfl) rfl (by repeat (first | exact Has.here | apply Has.there)) (by assumption)) (h := ?_)); (refine tkQ 19 (s := by exact Stab.load rfl (tysOk.get rfl) rfl (by repeat (first | exact Has.here | apply Has.there)) (by assumption)) (h := ?_)); (refine tkQ 23 (s := by exact Stab.load rfl (tysOk.get rfl) rfl (by repeat (first | exact Has.here | apply Has.there)) (by assumption)) (h := ?_)); (refine tkQ 27 (s := by exact Stab.load rfl (tysOk.get rfl) rfl (by repeat (first | exact Has.here | apply Has.there)) (by assumption)) (h := ?_)); (refine tkQ 31 (s := by exact Stab.load rfl (tysOk.get rfl) rfl (by repeat (first | exact Has.here | apply Has.there)) (by assumption)) (h := ?_)); (refine tkQ 32 (s := by exact Stab.assign rfl) (h := ?_)); (refine tkQ 33 (s := by exact Stab.assign rfl) (h := ?_)); (refine tkQ 34 (s := by exact Stab.assign rfl) (h := ?_)); (refine tkQ 35 (s := by exact Stab.assign rfl) (h := ?_)); (refine tkQ 36 (s := by exact Stab.assign rfl) (h := ?_)); (refine tkQ 37 (s := by exact Stab.assign rfl) (h := ?_)); (refine tkQ 38 (s := by exact Stab.assign rfl) (h := ?_)); (refine tkQ 39 (s := by exact Stab.assign rfl) (h := ?_)); (refine TrA.done (by kernel_rfl) ?_))
  repeat (first | ((with_reducible refine Tr.step rfl ?_); ((refine xmQ (z := ?_)))) | (with_reducible first | apply Tr.next | apply Tr.seq | apply Tr.region | apply Tr.nil | apply Tr.block))
  refine Tr.loop (α := Nat × W8) (fun y => ⟨205, [(119, .int .i64 y.1), (10, .int .u32 (y.2.a.toNat : Int)), (11, .int .u32 (y.2.b.toNat : Int)), (12, .int .u32 (y.2.c.toNat : Int)), (13, .int .u32 (y.2.d.toNat : Int)), (14, .int .u32 (y.2.e.toNat : Int)), (15, .int .u32 (y.2.f.toNat : Int)), (16, .int .u32 (y.2.g.toNat : Int)), (17, .int .u32 (y.2.h.toNat : Int)), (4, .pointer (some ⟨b, 0, none⟩)), (0, .pointer (some ⟨ps, 0, none⟩))], [], M, box b 139 (wV ws) :: box ps 118 (wV st) :: ([] ++ F)⟩)
    (fun y => y.1 ≤ 64 ∧ y.2 = rnds ws (W8.of st) y.1) (fun y => 64 - y.1) (0, W8.of st) ⟨by simp, rfl⟩ hsQ (fun y hy => ?_)
  obtain ⟨t, x⟩ := y
  obtain ⟨h1, h3⟩ := hy
  simp only at h1 h3
  dsimp only
  have hwl : (wV ws).length = 64 := by simpa using h2
  by_cases ht : t < 64
  · have gw := wV_getD (l := ws) (i := t) (by omega)
    obtain ⟨kcs, hkt⟩ := at_word hK (t := t) (by rw [Kw_length]; omega)
    generalize hkk : Kw.getD t 0 = kk at hkt
    repeat (first | ((with_reducible refine Tr.step rfl ?_); (first | (refine xmQ (z := ?_)) | (refine xaQ (z := ?_)) | (refine xiQ (z := ?_)))) | (with_reducible first | apply Tr.next | apply Tr.seq | apply Tr.region | apply Tr.nil | apply Tr.skip | apply Tr.block) | (refine Tr.cond_t rfl (by first | (with_reducible assumption) | omega) ?_))
    (((apply Tr.draw); (kernel_rfl)); (refine tkQ 0 (hB := by exact fun _ h => h) (s := by exact Stab.move rfl) (h := ?_)); (refine tkQ 1 (s := by exact Stab.move rfl) (h := ?_)); (refine tkQ 3 (s := by exact Stab.move rfl) (h := ?_)); (refine tkQ 6 (s := by exact Stab.move rfl) (h := ?_)); (refine tkQ 10 (s := by exact Stab.move rfl) (h := ?_)); (refine tkQ 11 (s := by exact Stab.move rfl) (h := ?_)); (refine tkQ 13 (s := by exact Stab.move rfl) (h := ?_)); (refine tkQ 15 (s := by exact Stab.move rfl) (h := ?_)); (refine tkQ 19 (s := by exact Stab.move rfl) (h := ?_)); (refine tkQ 23 (s := by exact Stab.move rfl) (h := ?_)); (refine tkQ 12 (s := by exact Stab.andw rfl rfl) (h := ?_)); (refine tkQ 14 (s := by exact Stab.notw rfl) (h := ?_)); (refine tkQ 20 (s := by exact Stab.indexArrB0 rfl rfl (tysOk.get rfl) rfl (tysOk.get rfl) rfl (by omega) (by omega)) (h := ?_)); (refine tkQ 24 (s := by exact Stab.indexArrB0 rfl rfl (tysOk.get rfl) rfl (tysOk.get rfl) rfl (by omega) (by omega)) (h := ?_)); (refine tkQ 16 (s := by exact Stab.andw rfl rfl) (h := ?_)); (refine tkQ 21 (s := by exact sMQ) (h := ?_)); (refine tkQ 25 (s := by exact Stab.load rfl (tysOk.get rfl) rfl (by repeat (first | exact Has.here | apply Has.there)) (by assumption)) (h := ?_)); (refine tkQ 17 (s := by exact Stab.xorw rfl rfl) (h := ?_)); (refine TrA.eff 2 rfl (by kernel_rfl) (by exact .inl rfl) ?_))
    refine Exec.call0 rfl (ror_fn M x.e 6 (by omega) (by omega)) rfl ?_
    rintro _ _ _ ⟨rfl, rfl⟩
    refine ⟨Mem.le.refl _, (by exact fun _ h => h), ?_⟩
    ((refine TrA.eff 4 rfl (by kernel_rfl) (by exact .inl rfl) ?_))
    refine Exec.call0 rfl (ror_fn M x.e 11 (by omega) (by omega)) rfl ?_
    rintro _ _ _ ⟨rfl, rfl⟩
    refine ⟨Mem.le.refl _, (by exact fun _ h => h), ?_⟩
    ((refine tkQ 5 (s := by exact Stab.xorw rfl rfl) (h := ?_)); (refine TrA.eff 7 rfl (by kernel_rfl) (by exact .inl rfl) ?_))
    refine Exec.call0 rfl (ror_fn M x.e 25 (by omega) (by omega)) rfl ?_
    rintro _ _ _ ⟨rfl, rfl⟩
    refine ⟨Mem.le.refl _, (by exact fun _ h => h), ?_⟩
    ((refine tkQ 8 (s := by exact Stab.xorw rfl rfl) (h := ?_)); (refine tkQ 9 (s := by exact Stab.addw rfl rfl) (h := ?_)); (refine tkQ 18 (s := by exact Stab.addw rfl rfl) (h := ?_)); (refine tkQ 22 (s := by exact Stab.addw rfl rfl) (h := ?_)); (refine tkQ 26 (s := by exact Stab.addw rfl rfl) (h := ?_)); (refine tkQ 27 (s := by exact Stab.assign rfl) (h := ?_)); (refine TrA.done (by kernel_rfl) ?_))
    generalize hP : x.h + (rorw x.e 6 ^^^ rorw x.e 11 ^^^ rorw x.e 25) + ((x.e &&& x.f) ^^^ (~~~x.e &&& x.g)) + kk + ws.getD t 0 = p
    repeat (first | ((with_reducible refine Tr.step rfl ?_); ((refine xmQ (z := ?_)))) | (with_reducible first | apply Tr.next | apply Tr.seq | apply Tr.region))
    ((refine Tr.step rfl ?_)); refine Exec.call0 rfl (ror_fn M x.a 2 (by omega) (by omega)) rfl ?_
    rintro _ _ _ ⟨rfl, rfl⟩
    repeat (((with_reducible refine Tr.step rfl ?_); ((refine xmQ (z := ?_)))))
    ((refine Tr.step rfl ?_)); refine Exec.call0 rfl (ror_fn M x.a 13 (by omega) (by omega)) rfl ?_
    rintro _ _ _ ⟨rfl, rfl⟩
    repeat (((with_reducible refine Tr.step rfl ?_); (first | (refine xmQ (z := ?_)) | ((with_reducible refine Knd.binOp ?_); ((refine Exec.stab rfl (Stab.xorw rfl rfl) rfl ?_))))))
    ((refine Tr.step rfl ?_)); refine Exec.call0 rfl (ror_fn M x.a 22 (by omega) (by omega)) rfl ?_
    rintro _ _ _ ⟨rfl, rfl⟩
    repeat (first | ((with_reducible refine Tr.step rfl ?_); (first | (refine xmQ (z := ?_)) | (refine xaQ (z := ?_)) | ((with_reducible refine Knd.binOp ?_); (first | (refine Exec.stab rfl (Stab.addw rfl rfl) rfl ?_) | (refine Exec.stab rfl (Stab.xorw rfl rfl) rfl ?_) | (refine Exec.stab rfl (Stab.andw rfl rfl) rfl ?_) | (refine xdQ (z := ?_)))))) | (with_reducible first | apply Tr.next | apply Tr.region | apply Tr.nil | apply Tr.in_normal))
    generalize hQ : (rorw x.a 2 ^^^ rorw x.a 13 ^^^ rorw x.a 22) + ((x.a &&& x.b) ^^^ (x.a &&& x.c) ^^^ (x.b &&& x.c)) = q
    repeat (fail)
    refine Tr.again (t + 1, ⟨p + q, x.a, x.b, x.c, x.d + p, x.e, x.f, x.g⟩) ⟨by simp only; omega, ?_⟩ (by simp only; omega) hsQ
    simp only
    rw [rnds, ← h3, hkk, rnd, pw, qw, hP, hQ]
  have e : t = 64 := by omega
  subst e
  clear h1 ht hwl
  repeat (first | ((with_reducible refine Tr.step rfl ?_); (first | (refine xmQ (z := ?_)) | (refine xiQ (z := ?_)) | ((with_reducible refine Knd.build ?_); ((refine Exec.stab rfl (Stab.buildA (tysOk.get rfl) rfl (tysOk.get rfl) rfl rfl (by repeat (first | exact BuildP.nil | ((apply BuildP.one); (rfl); (rfl); (first | rfl | assumption); (repeat (first | exact SetL.z | apply SetL.s)))))) rfl ?_))))) | (with_reducible first | apply Tr.next | apply Tr.seq | apply Tr.region | apply Tr.nil | apply Tr.block | apply Tr.exit | apply Tr.then_exit) | ((with_reducible refine Tr.in_exit ?_ ?_); (exact rfl)) | (refine Tr.cond_f rfl (by omega) ?_))
  refine Tr.loop (α := Nat × List UInt32) (fun y => ⟨205, [(191, .int .i64 y.1), (190, .agg (wV x.l).toArray), (0, .pointer (some ⟨ps, 0, none⟩))], [], M, box b 139 (wV ws) :: box ps 118 (wV y.2) :: ([] ++ F)⟩)
    (fun y => y.1 ≤ 8 ∧ y.2.length = 8 ∧ ∀ k, k < 8 → y.2.getD k 0 = if k < y.1 then st.getD k 0 + x.l.getD k 0 else st.getD k 0) (fun y => 8 - y.1) (0, st) ⟨by simp, hst, fun k _ => by simp⟩ hsQ (fun y hy => ?_)
  obtain ⟨i, cur⟩ := y
  obtain ⟨i1, i2, i3⟩ := hy
  simp only at i1 i2 i3
  dsimp only
  by_cases hi : i < 8
  · have gc := wV_getD (l := cur) (i := i) (by omega)
    have hcl : (wV cur).length = 8 := by simpa using i2
    have hxl : x.l.length = 8 := rfl
    obtain ⟨v, hv⟩ := get_of_lt (show i < x.l.length by omega)
    repeat (first | ((with_reducible refine Tr.step rfl ?_); (first | (refine xmQ (z := ?_)) | (refine xiQ (z := ?_)))) | (with_reducible first | apply Tr.next | apply Tr.seq | apply Tr.region | apply Tr.nil | apply Tr.skip | apply Tr.block) | (refine Tr.cond_t rfl (by first | (with_reducible assumption) | omega) ?_))
    refine Tr.step rfl ?_
    refine Exec.stab rfl (Stab.indexV1 (v := .int .u32 (v.toNat : Int)) rfl rfl (tysOk.get rfl) rfl (tysOk.get rfl) rfl rfl (by omega) (by omega) (wV_getq hv)) rfl ?_
    repeat (first | ((with_reducible refine Tr.step rfl ?_); ((refine xaQ (z := ?_)))) | (with_reducible first | apply Tr.next | apply Tr.nil))
    (((apply Tr.draw); (kernel_rfl)); (refine tkQ 0 (hB := by exact fun _ h => h) (s := by exact Stab.move rfl) (h := ?_)); (refine tkQ 1 (s := by exact Stab.move rfl) (h := ?_)); (refine tkQ 5 (s := by exact Stab.move rfl) (h := ?_)); (refine tkQ 2 (s := by exact Stab.nilCheck rfl) (h := ?_)); (refine tkQ 7 (s := by exact Stab.nilCheck rfl) (h := ?_)); (refine tkQ 3 (s := by exact Stab.indexArrB0 rfl rfl (tysOk.get rfl) rfl (tysOk.get rfl) rfl (by omega) (by omega)) (h := ?_)); (refine tkQ 4 (s := by exact Stab.load rfl (tysOk.get rfl) rfl (by repeat (first | exact Has.here | apply Has.there)) (by assumption)) (h := ?_)); (refine tkQ 6 (s := by exact Stab.addw rfl rfl) (h := ?_)); (refine tkQ 8 (s := by exact Stab.indexArrB0 rfl rfl (tysOk.get rfl) rfl (tysOk.get rfl) rfl (by omega) (by omega)) (h := ?_)); (refine TrA.effD 9 rfl (by kernel_rfl) (by kernel_rfl) (by exact .inl rfl) ?_))
    refine Exec.storeS rfl rfl (tysOk.get rfl) rfl rfl (by repeat (first | exact Upd.here | apply Upd.there)) (by rw [hcl]; omega) ?_
    refine ⟨_, fun _ h => h, ?_⟩
    ((refine TrA.done (by kernel_rfl) ?_))
    rw [show (wV cur).set (Int.toNat (i : Int)) (.int .u32 ((cur.getD i 0 + v).toNat : Int)) = wV (cur.set i (cur.getD i 0 + v)) from wV_set _ _ _]
    repeat (first | ((with_reducible refine Tr.step rfl ?_); (first | (refine xmQ (z := ?_)) | (refine xdQ (z := ?_)))) | (with_reducible first | apply Tr.next | apply Tr.region | apply Tr.nil | apply Tr.in_normal))
    refine Tr.again (i + 1, cur.set i (cur.getD i 0 + v)) ⟨by simp only; omega, by simpa using i2, fun k hk => ?_⟩ (by simp only; omega) hsQ
    simp only
    have hvd : x.l.getD i 0 = v := by rw [List.getD_eq_getElem?_getD, hv]; rfl
    by_cases e : k = i
    · subst e
      rw [List.getD_eq_getElem?_getD, List.getElem?_set_self (by omega), if_pos (by omega)]
      show cur.getD k 0 + v = _
      rw [i3 k hk, if_neg (by omega), hvd]
    · rw [List.getD_eq_getElem?_getD, List.getElem?_set_ne (by omega), ← List.getD_eq_getElem?_getD, i3 k hk]
      by_cases h : k < i
      · rw [if_pos h, if_pos (by omega)]
      · rw [if_neg h, if_neg (by omega)]
  · have e : i = 8 := by omega
    subst e
    have hcur : cur = blkF st bs := by
      apply List.ext_getElem
      · rw [i2, blkF_length bs hst]
      · intro k hk1 hk2
        have := i3 k (by omega)
        rw [if_pos (by omega)] at this
        rw [List.getD_eq_getElem?_getD, List.getElem?_eq_getElem hk1, List.getD_eq_getElem?_getD, List.getElem?_eq_getElem (by omega), List.getD_eq_getElem?_getD, List.getElem?_eq_getElem (show k < x.l.length by show k < 8; omega)] at this
        simp only [Option.getD_some] at this
        rw [this]
        simp only [blkF, List.getElem_zipWith]
        rw [hws] at h3
        subst h3
        rfl
    repeat (first | ((with_reducible refine Tr.step rfl ?_); ((refine xiQ (z := ?_)))) | (with_reducible first | apply Tr.next | apply Tr.seq | apply Tr.region | apply Tr.nil | apply Tr.exit | apply Tr.then_exit) | ((with_reducible refine Tr.in_exit ?_ ?_); (exact rfl)) | (refine Tr.cond_f rfl (by first | (with_reducible assumption) | omega) ?_))
    refine Tr.doneB (A' := [box ps 118 (wV (blkF st bs))]) [box b 139 (wV ws)] (by first | exact .inl rfl | exact .inr rfl) rfl (by repeat (exact RVs.nil)) (Mem.le.refl _) ?_ ⟨rfl, rfl⟩
    rw [hcur]
    exact List.Perm.refl _
end Go.Proofs.YtghjhdbmkilakaaGreatDoor.Dg

/-
  The digest: padding; the contracts of Clone and Sum.
  Conditions: none.
-/
namespace Go.Proofs.YtghjhdbmkilakaaGreatDoor.Dg
open Go Bf
attribute [local irreducible] Tr Exec Stab HasTy Go.Addr.add IntKind.wrap
/-- a slice of bytes that may grow, as a result -/
def OwnB (bs : List UInt8) (r : Value) (A' : List Res) : Prop := ∃ A c, r = .slice A bs.length c ∧ c ≤ 9223372036854775807 ∧ A' = [ownS 5 1 A bs.length c (byteV bs)]
def be8 (m : Nat) (i : Nat) : List UInt8 := (List.range i).map fun j => UInt8.ofNat (m / 2 ^ (56 - 8 * j))
def padK (n : Nat) : Nat := (119 - n % 64) % 64
def pad1 (bs : List UInt8) (j : Nat) : List UInt8 := bs ++ 128 :: List.replicate j 0
/-- the bytes with their end -/
def padF (bs : List UInt8) : List UInt8 := pad1 bs (padK bs.length) ++ be8 (8 * bs.length) 8
theorem be8_length (m i : Nat) : (be8 m i).length = i := by simp [be8]
theorem be8_succ (m i : Nat) : be8 m (i + 1) = be8 m i ++ [UInt8.ofNat (m / 2 ^ (56 - 8 * i))] := by simp [be8, List.range_succ]
theorem pad1_length (bs : List UInt8) (j : Nat) : (pad1 bs j).length = bs.length + 1 + j := by simp [pad1]; omega
theorem pad1_succ (bs : List UInt8) (j : Nat) : pad1 bs (j + 1) = pad1 bs j ++ [0] := by simp [pad1, List.replicate_succ']
theorem padF_length (bs : List UInt8) : (padF bs).length = bs.length + 9 + padK bs.length := by simp [padF, pad1_length, be8_length]; omega
theorem padF_mod (bs : List UInt8) : (padF bs).length % 64 = 0 := by rw [padF_length, padK]; omega
/-- the state after so many blocks -/
def blks (p : List UInt8) : Nat → List UInt32
  | 0 => Hw
  | n + 1 => blkF (blks p n) ((p.drop (64 * n)).take 64)
theorem blks_length (p : List UInt8) (n : Nat) : (blks p n).length = 8 := by
  induction n with
  | zero => rfl
  | succ n ih => exact blkF_length _ ih
def outB (st : List UInt32) (q : Nat) : UInt8 := ((st.getD (q / 4) 0) >>> UInt32.ofNat (24 - 8 * (q % 4))).toUInt8
def outF (st : List UInt32) : List UInt8 := (List.range 32).map (outB st)
def sumF (bs : List UInt8) : List UInt8 := outF (blks (padF bs) ((padF bs).length / 64))
theorem outF_length (st : List UInt32) : (outF st).length = 32 := by simp [outF]
theorem sumF_length (bs : List UInt8) : (sumF bs).length = 32 := outF_length _
theorem out_done {cur : List UInt8} {st : List UInt32} (hl : cur.length = 32) (h : ∀ q, q < 32 → cur.getD q 0 = outB st q) : cur = outF st := by
  apply List.ext_getElem
  · rw [hl, outF_length]
  · intro q h1 h2
    have := h q (by omega)
    rw [List.getD_eq_getElem?_getD, List.getElem?_eq_getElem h1] at this
    simpa [outF] using this
set_option maxHeartbeats 1000000 in
theorem clone_fn (M : Mem) (A : Option Addr) (c : Nat) (bs : List UInt8) (hb : BSl M (.slice A bs.length c) bs) (hl : bs.length ≤ 1000000000000) :
    Bf.Fn Tryz.prog 68 [.slice A bs.length c] M [] (fun r M' A' => M = M' ∧ OwnB bs r A') := by
  have hcap := hb.cap
  refine Fn.intro Tryz.func68 rfl rfl Tryz.ntmps68 rfl fun E F => ?_
  by_cases hA : A = none
  · have hnil : bs = [] := List.eq_nil_of_length_eq_zero (hcap.2.2.1 hA)
    subst hnil
    repeat (first | ((with_reducible refine Tr.step rfl ?_); (first | (refine xmQ (z := ?_)) | (refine xaQ (z := ?_)) | ((with_reducible refine Knd.binOp ?_); ((refine Exec.stab rfl (Stab.slnil rfl (tysOk.get rfl) rfl) rfl ?_))))) | (with_reducible first | apply Tr.next | apply Tr.seq | apply Tr.region | apply Tr.nil | apply Tr.ret | apply Tr.then_ret) | (refine Tr.cond_t rfl (by (with_reducible assumption)) ?_))
    refine Tr.own_nil 5 1 ?_
    refine Tr.doneA (A' := [ownS 5 1 none 0 0 []]) (by first | exact .inl rfl | exact .inr rfl) rfl (by repeat (first | exact RVs.nil | (apply RVs.cons; (exact RV.tmp rfl)))) (Mem.le.refl _) ⟨fun _ h => h, fun h => h⟩ ⟨rfl, none, 0, rfl, by omega, rfl⟩
  · repeat (first | ((with_reducible refine Tr.step rfl ?_); (first | (refine xmQ (z := ?_)) | (refine xaQ (z := ?_)) | ((with_reducible refine Knd.binOp ?_); ((refine Exec.stab rfl (Stab.slnil rfl (tysOk.get rfl) rfl) rfl ?_))) | ((with_reducible refine Knd.buildSlice ?_); (refine Exec.buildSlice (tysOk.get rfl) rfl (tysOk.get rfl) rfl rfl rfl rfl rfl (by repeat (exact BuildP.nil)) rfl (fun b => ?_))))) | (with_reducible first | apply Tr.next | apply Tr.seq | apply Tr.region | apply Tr.nil | apply Tr.skip) | (refine Tr.cond_f rfl (by (with_reducible assumption)) ?_))
    refine Tr.box_own 1 0 (by repeat (first | exact Upd.here | apply Upd.there)) rfl (by intro u hu; cases hu) (by simp [maxLen]) ?_
    ((refine Tr.step rfl ?_))
    refine Exec.append (news := byteV bs) rfl rfl (tysOk.get rfl) rfl (tysOk.get rfl) rfl rfl rfl rfl (by repeat (first | exact Del.here | apply Del.there)) (Src.row hcap.2.2.2) (by simp) (byteV_one _) (by omega) (by omega) rfl (fun A2 c2 hc2 => ?_)
    rw [List.nil_append, Nat.zero_add]
    repeat (first | ((with_reducible refine Tr.step rfl ?_); ((refine xaQ (z := ?_)))) | (with_reducible first | apply Tr.next | apply Tr.nil | apply Tr.ret))
    refine Tr.doneA (A' := [ownS 5 1 A2 bs.length c2 (byteV bs)]) (by first | exact .inl rfl | exact .inr rfl) rfl (by repeat (first | exact RVs.nil | (apply RVs.cons; (exact RV.tmp rfl)))) (Mem.le.refl _) ⟨fun _ h => h, fun h => h⟩ ⟨rfl, A2, c2, rfl, hc2, rfl⟩
theorem be_byte (m k : Nat) : [Value.int .u8 (IntKind.u8.wrap ((m : Int) / 2 ^ k))] = byteV [UInt8.ofNat (m / 2 ^ k)] := by
  simp only [byteV, List.map_cons, List.map_nil]
  rw [IntKind.wrap_u8, UInt8.toNat_ofNat', Int.natCast_emod, Int.natCast_ediv, Int.natCast_pow]
  rfl
set_option maxHeartbeats 8000000 in
set_option maxRecDepth 20000 in
theorem sum_fn (M : Mem) (hK : At M ⟨0, 0, none⟩ (wV Kw)) (A : Option Addr) (c : Nat) (bs : List UInt8) (hb : BSl M (.slice A bs.length c) bs) (hl : bs.length ≤ 1000000000) :
    Fn0 Tryz.prog 36 [.slice A bs.length c] M (fun r M' => r = .agg (byteV (sumF bs)).toArray) := by
  have hpk : padK bs.length < 64 := by unfold padK; omega
  refine Fn.intro Tryz.func36 rfl rfl Tryz.ntmps36 rfl fun E F => ?_
  repeat (first | ((with_reducible refine Tr.step rfl ?_); (first | (refine xmQ (z := ?_)) | (refine xaQ (z := ?_)) | ((with_reducible refine Knd.box ?_); ((refine Exec.box rfl rfl (fun b => ?_)))) | ((with_reducible refine Knd.alloc ?_); ((refine Exec.alloc (tysOk.get rfl) rfl rfl (fun b => ?_)))) | ((with_reducible refine Knd.build ?_); ((refine Exec.stab rfl (Stab.buildA (tysOk.get rfl) rfl (tysOk.get rfl) rfl rfl (by repeat (first | exact BuildP.nil | ((apply BuildP.one); (rfl); (rfl); (first | rfl | assumption); (repeat (first | exact SetL.z | apply SetL.s)))))) rfl ?_))))) | (with_reducible first | apply Tr.next | apply Tr.seq | apply Tr.region | apply Tr.nil))
  generalize hbs : b = bst
  rename_i b2
  refine Tr.cells (cs' := wV Hw) (by repeat (first | exact Upd.here | apply Upd.there)) (by kernel_rfl) ?_
  ((refine Tr.step rfl ?_))
  refine Exec.call (A := []) rfl (clone_fn M A c bs hb (by omega)) (List.Perm.refl _) rfl ?_
  rintro _ _ _ - ⟨rfl, A3, c3, rfl, hc3, rfl⟩
  repeat (((with_reducible refine Tr.step rfl ?_); (((with_reducible refine Knd.buildSlice ?_); (refine Exec.buildSlice (tysOk.get rfl) rfl (tysOk.get rfl) rfl rfl rfl rfl rfl (by repeat (first | exact BuildP.nil | ((apply BuildP.one); (rfl); (rfl); (first | rfl | assumption); (repeat (first | exact SetL.z | apply SetL.s))))) rfl (fun b => ?_))))))
  refine Tr.cells (cs' := byteV [128]) (by repeat (first | exact Upd.here | apply Upd.there)) rfl ?_
  ((refine Tr.step rfl ?_))
  refine Exec.append (news := byteV [128]) rfl rfl (tysOk.get rfl) rfl (tysOk.get rfl) rfl rfl rfl rfl (by repeat (first | exact Del.here | apply Del.there)) (Src.box (by repeat (first | exact Has.here | apply Has.there))) (by simp) (byteV_one _) (by omega) (by omega) rfl (fun A4 c4 hc4 => ?_)
  rw [← byteV_append, show bs ++ [128] = pad1 bs 0 from rfl, show bs.length + 1 = (pad1 bs 0).length by rw [pad1_length]]
  repeat (first | ((with_reducible refine Tr.step rfl ?_); ((refine xaQ (z := ?_)))) | (with_reducible first | apply Tr.next | apply Tr.seq | apply Tr.nil | apply Tr.block))
  refine gvQ (r := box _ 5 (byteV [128])) (k := ?_)
  refine Tr.loop (α := Nat × Option Addr × Nat) (fun y => ⟨84, [(4, .slice y.2.1 (pad1 bs y.1).length y.2.2), (3, .pointer (some ⟨bst, 0, none⟩)), (2, .pointer (some ⟨b2, 0, none⟩)), (0, .slice A bs.length c)], [], M, ownS 5 1 y.2.1 (pad1 bs y.1).length y.2.2 (byteV (pad1 bs y.1)) :: box bst 118 (wV Hw) :: box b2 25 _ :: ([] ++ F)⟩)
    (fun y => y.1 ≤ padK bs.length ∧ y.2.2 ≤ 9223372036854775807) (fun y => padK bs.length - y.1) (0, A4, c4) ⟨Nat.zero_le _, hc4⟩ hsQ (fun y hy => ?_)
  obtain ⟨j, A5, c5⟩ := y
  obtain ⟨hj, hc5⟩ := hy
  simp only at hj hc5
  dsimp only
  have hpl := pad1_length bs j
  by_cases hlt : j < padK bs.length
  · have hne : ¬ ((pad1 bs j).length : Int) % 64 = 56 := by rw [hpl]; unfold padK at hlt; omega
    repeat (first | ((with_reducible refine Tr.step rfl ?_); (first | (refine xmQ (z := ?_)) | (refine xnQ (z := ?_)) | ((with_reducible refine Knd.binOp ?_); (first | (refine xiQ (z := ?_)) | (refine Exec.stab rfl (Stab.remp rfl rfl (by omega) (by omega)) rfl ?_))) | ((with_reducible refine Knd.buildSlice ?_); (refine Exec.buildSlice (tysOk.get rfl) rfl (tysOk.get rfl) rfl rfl rfl rfl rfl (by repeat (first | exact BuildP.nil | ((apply BuildP.one); (rfl); (rfl); (first | rfl | assumption); (repeat (first | exact SetL.z | apply SetL.s))))) rfl (fun b => ?_))))) | (with_reducible first | apply Tr.next | apply Tr.seq | apply Tr.region | apply Tr.nil | apply Tr.skip | apply Tr.block) | (refine Tr.cond_t rfl (by (with_reducible assumption)) ?_))
    refine Tr.cells (cs' := byteV [0]) (by repeat (first | exact Upd.here | apply Upd.there)) rfl ?_
    ((refine Tr.step rfl ?_))
    refine Exec.append (news := byteV [0]) rfl rfl (tysOk.get rfl) rfl (tysOk.get rfl) rfl rfl rfl rfl (by repeat (first | exact Del.here | apply Del.there)) (Src.box (by repeat (first | exact Has.here | apply Has.there))) (by simp) (byteV_one _) (by omega) (by omega) rfl (fun A6 c6 hc6 => ?_)
    rw [← byteV_append, ← pad1_succ, show (pad1 bs j).length + 1 = (pad1 bs (j + 1)).length by rw [pad1_length, pad1_length]; omega]
    repeat (first | ((with_reducible refine Tr.step rfl ?_); ((refine xaQ (z := ?_)))) | (with_reducible first | apply Tr.next | apply Tr.nil | apply Tr.in_normal))
    refine gvQ (r := box _ 5 (byteV [0])) (k := ?_)
    refine Tr.again (j + 1, A6, c6) ⟨by simp only; omega, hc6⟩ (by simp only; omega) hsQ
  have e : j = padK bs.length := by omega
  subst e
  have heq : ((pad1 bs (padK bs.length)).length : Int) % 64 = 56 := by rw [hpl]; unfold padK; omega
  have hm : 8 * (bs.length : Int) = ((8 * bs.length : Nat) : Int) := by omega
  repeat (first | ((with_reducible refine Tr.step rfl ?_); (first | (refine xmQ (z := ?_)) | (refine xaQ (z := ?_)) | (refine xnQ (z := ?_)) | ((with_reducible refine Knd.binOp ?_); (first | (refine Exec.stab rfl (Stab.mulu64 rfl rfl (by omega)) rfl ?_) | (refine xiQ (z := ?_)) | (refine Exec.stab rfl (Stab.remp rfl rfl (by omega) (by omega)) rfl ?_))) | ((with_reducible refine Knd.convert ?_); ((refine Exec.stab rfl (Stab.convu64 rfl (tysOk.get rfl) (tysOk.get rfl) rfl rfl (by omega)) rfl ?_))))) | (with_reducible first | apply Tr.next | apply Tr.seq | apply Tr.region | apply Tr.nil | apply Tr.block | apply Tr.exit | apply Tr.then_exit) | ((with_reducible refine Tr.in_exit ?_ ?_); (exact rfl)) | (refine Tr.cond_f rfl (by first | (with_reducible assumption) | omega) ?_))
  rw [hm]
  have hw : ∃ ws : Nat → List UInt8, ∀ i, ws i = pad1 bs (padK bs.length) ++ be8 (8 * bs.length) i := ⟨_, fun _ => rfl⟩
  obtain ⟨ws, hws⟩ := hw
  have hwl : ∀ i, (ws i).length = (pad1 bs (padK bs.length)).length + i := fun i => by rw [hws, List.length_append, be8_length]
  have hw0 : pad1 bs (padK bs.length) = ws 0 := by rw [hws]; simp [be8]
  have hwp : (pad1 bs (padK bs.length)).length ≤ 1000000100 := by rw [hpl]; omega
  rw [hw0]
  refine Tr.loop (α := Nat × Option Addr × Nat) (fun y => ⟨84, [(29, .int .i64 y.1), (5, .int .u64 ((8 * bs.length : Nat) : Int)), (4, .slice y.2.1 (ws y.1).length y.2.2), (3, .pointer (some ⟨bst, 0, none⟩)), (2, .pointer (some ⟨b2, 0, none⟩))], [], M, ownS 5 1 y.2.1 (ws y.1).length y.2.2 (byteV (ws y.1)) :: box bst 118 (wV Hw) :: box b2 25 _ :: ([] ++ F)⟩)
    (fun y => y.1 ≤ 8 ∧ y.2.2 ≤ 9223372036854775807) (fun y => 8 - y.1) (0, A5, c5) ⟨by simp, hc5⟩ hsQ (fun y hy => ?_)
  clear hj hc5 hlt
  obtain ⟨i, A5, c5⟩ := y
  obtain ⟨hi, hc5⟩ := hy
  simp only at hi hc5
  dsimp only
  by_cases hlt : i < 8
  · have e56 : 56 - 8 * (i : Int) = ((56 - 8 * i : Nat) : Int) := by omega
    have hwi := hwl i
    repeat (first | ((with_reducible refine Tr.step rfl ?_); (first | (refine xmQ (z := ?_)) | (refine xaQ (z := ?_)) | ((with_reducible refine Knd.binOp ?_); (first | (refine Exec.stab rfl (Stab.subi rfl rfl (by omega)) rfl ?_) | (refine Exec.stab rfl (Stab.muli rfl rfl (by omega)) rfl ?_) | (refine xiQ (z := ?_)))))) | (with_reducible first | apply Tr.next | apply Tr.seq | apply Tr.region | apply Tr.nil | apply Tr.skip | apply Tr.block) | (refine Tr.cond_t rfl (by first | (with_reducible assumption) | omega) ?_))
    rw [e56]
    refine Tr.step rfl ?_
    refine Exec.stab rfl (Stab.shrc (56 - 8 * i) (p := 2 ^ (56 - 8 * i)) rfl rfl ((by rw [Nat.ble_eq]; show _ ≤ 64; omega)) rfl) rfl ?_
    repeat (((with_reducible refine Tr.step rfl ?_); (first | ((with_reducible refine Knd.convert ?_); ((refine Exec.stab rfl (Stab.conv rfl (tysOk.get rfl) (tysOk.get rfl) rfl rfl) rfl ?_))) | ((with_reducible refine Knd.buildSlice ?_); (refine Exec.buildSlice (tysOk.get rfl) rfl (tysOk.get rfl) rfl rfl rfl rfl rfl (by repeat (first | exact BuildP.nil | ((apply BuildP.one); (rfl); (rfl); (first | rfl | assumption); (repeat (first | exact SetL.z | apply SetL.s))))) rfl (fun b => ?_))))))
    refine Tr.cells (cs' := byteV [UInt8.ofNat (8 * bs.length / 2 ^ (56 - 8 * i))]) (by repeat (first | exact Upd.here | apply Upd.there)) (be_byte _ _) ?_
    ((refine Tr.step rfl ?_))
    refine Exec.append (news := byteV [UInt8.ofNat (8 * bs.length / 2 ^ (56 - 8 * i))]) rfl rfl (tysOk.get rfl) rfl (tysOk.get rfl) rfl rfl rfl rfl (by repeat (first | exact Del.here | apply Del.there)) (Src.box (by repeat (first | exact Has.here | apply Has.there))) (by simp) (byteV_one _) (by omega) (by omega) rfl (fun A6 c6 hc6 => ?_)
    rw [← byteV_append, show ws i ++ [UInt8.ofNat (8 * bs.length / 2 ^ (56 - 8 * i))] = ws (i + 1) by rw [hws, hws, be8_succ, List.append_assoc], show (ws i).length + 1 = (ws (i + 1)).length by rw [hwl, hwl]; omega]
    repeat (first | ((with_reducible refine Tr.step rfl ?_); (first | (refine xmQ (z := ?_)) | (refine xaQ (z := ?_)) | (refine xdQ (z := ?_)))) | (with_reducible first | apply Tr.next | apply Tr.region | apply Tr.nil | apply Tr.in_normal))
    refine gvQ (r := box _ 5 (byteV [_])) (k := ?_)
    refine Tr.again (i + 1, A6, c6) ⟨by simp only; omega, hc6⟩ (by simp only; omega) hsQ
  have e : i = 8 := by omega
  subst e
  have hp : ws 8 = padF bs := hws 8
  have hmod := padF_mod bs
  have hpl2 := padF_length bs
  rw [hp]
  refine pbQ (r := ownS 5 1 _ _ _ _) (k := fun M1 hm1 hok => ?_)
  have hbp := BSl.ofOwn hok rfl hc5
  have hcap := hbp.cap
  have hK1 := hK.mono hm1
  clear hws hwl hw0 hp hwp heq hpl
  generalize hP : padF bs = P at hbp hcap hmod hpl2 ⊢
  repeat (first | ((with_reducible refine Tr.step rfl ?_); (first | (refine xmQ (z := ?_)) | (refine xaQ (z := ?_)) | (refine xnQ (z := ?_)) | ((with_reducible refine Knd.makeFunc ?_); (refine Exec.stab rfl (Stab.makeFunc rfl rfl) rfl ?_)) | ((with_reducible refine Knd.binOp ?_); (first | (refine xiQ (z := ?_)) | (refine Exec.stab rfl (Stab.quoi rfl rfl (by omega) (by omega) (by omega)) rfl ?_))))) | (with_reducible first | apply Tr.next | apply Tr.seq | apply Tr.region | apply Tr.nil | apply Tr.block | apply Tr.exit | apply Tr.then_exit) | ((with_reducible refine Tr.in_exit ?_ ?_); (exact rfl)) | (refine Tr.cond_f rfl (by first | (with_reducible assumption) | omega) ?_))
  rw [show (P.length : Int) / 64 = ((P.length / 64 : Nat) : Int) by omega]
  refine Tr.loop (α := Nat) (fun i => ⟨84, [(47, .int .i64 i), (46, .int .i64 ((P.length / 64 : Nat) : Int)), (7, .func (.func 69) #[.pointer (some ⟨bst, 0, none⟩)] #[]), (4, .slice A5 P.length c5), (3, .pointer (some ⟨bst, 0, none⟩)), (2, .pointer (some ⟨b2, 0, none⟩))], [], M1, box bst 118 (wV (blks P i)) :: box b2 25 _ :: ([] ++ F)⟩)
    (fun i => i ≤ P.length / 64) (fun i => P.length / 64 - i) 0 (Nat.zero_le _) hsQ (fun i hi => ?_)
  by_cases hlt : i < P.length / 64
  · have hsub := hbp.sub (l := 64 * i) (k := 64 * i + 64) (m := c5) (by omega) (by omega) (by omega) (Nat.le_refl _)
    have e1 : 64 * (i : Int) = ((64 * i : Nat) : Int) := by omega
    have e2 : ((64 * i : Nat) : Int) + 64 = ((64 * i + 64 : Nat) : Int) := by omega
    rw [show 64 * i + 64 - 64 * i = 64 by omega] at hsub
    repeat (first | ((with_reducible refine Tr.step rfl ?_); (first | (refine xmQ (z := ?_)) | (refine xaQ (z := ?_)) | ((with_reducible refine Knd.binOp ?_); (first | (refine xdQ (z := ?_)) | (refine Exec.stab rfl (Stab.muli rfl rfl (by omega)) rfl ?_) | (refine xiQ (z := ?_)))) | ((with_reducible refine Knd.slice ?_); ((refine Exec.stab rfl (Stab.slice_lh rfl rfl rfl (tysOk.get rfl) rfl (tysOk.get rfl) rfl (by omega) (by omega) (by omega)) rfl ?_))))) | (with_reducible first | apply Tr.next | apply Tr.seq | apply Tr.region | apply Tr.nil | apply Tr.skip | apply Tr.block) | (refine Tr.cond_t rfl (by first | (with_reducible assumption) | omega) ?_))
    rw [show (64 * (i : Int)).toNat = 64 * i by omega, show (64 * (i : Int) + 64).toNat = 64 * i + 64 by omega, show 64 * i + 64 - 64 * i = 64 by omega]
    ((refine Tr.step rfl ?_))
    refine Exec.callv (A := [box bst 118 (wV (blks P i))]) (first := [.pointer (some ⟨bst, 0, none⟩)]) (cap := []) rfl rfl (absorb_fn M1 hK1 bst (blks P i) (blks_length P i) _ _ _ hsub (by simp; omega)) (List.Perm.refl _) rfl ?_
    rintro _ _ _ - ⟨rfl, rfl⟩
    rw [show blkF (blks P i) ((P.drop (64 * i)).take 64) = blks P (i + 1) from rfl]
    repeat (first | ((with_reducible refine Tr.step rfl ?_); (first | (refine xmQ (z := ?_)) | (refine xdQ (z := ?_)))) | (with_reducible first | apply Tr.next | apply Tr.region | apply Tr.nil | apply Tr.in_normal))
    refine Tr.again (i + 1) (by omega) (by omega) hsQ
  have e : i = P.length / 64 := by omega
  subst e
  clear hlt hi
  generalize hS : blks P (P.length / 64) = St
  have hSl : St.length = 8 := by rw [← hS]; exact blks_length _ _
  repeat (first | ((with_reducible refine Tr.step rfl ?_); (first | (refine xmQ (z := ?_)) | (refine xiQ (z := ?_)))) | (with_reducible first | apply Tr.next | apply Tr.seq | apply Tr.region | apply Tr.nil | apply Tr.block | apply Tr.exit | apply Tr.then_exit) | ((with_reducible refine Tr.in_exit ?_ ?_); (exact rfl)) | (refine Tr.cond_f rfl (by first | (with_reducible assumption) | omega) ?_))
  refine Tr.cells (b := b2) (t := 25) (cs' := byteV (List.replicate 32 0)) (by repeat (first | exact Upd.here | apply Upd.there)) (by kernel_rfl) ?_
  refine Tr.loop (α := Nat × List UInt8) (fun y => ⟨84, [(61, .int .i64 y.1), (60, .pointer (some ⟨bst, 0, none⟩)), (2, .pointer (some ⟨b2, 0, none⟩))], [], M1, box bst 118 (wV St) :: box b2 25 (byteV y.2) :: ([] ++ F)⟩)
    (fun y => y.1 ≤ 8 ∧ y.2.length = 32 ∧ ∀ q, q < 4 * y.1 → y.2.getD q 0 = outB St q) (fun y => 8 - y.1) (0, List.replicate 32 0) ⟨by simp, by simp, fun q hq => absurd hq (by simp)⟩ hsQ (fun y hy => ?_)
  obtain ⟨i, cur⟩ := y
  obtain ⟨hi, hcl, hq⟩ := hy
  simp only at hi hcl hq
  dsimp only
  by_cases hlt : i < 8
  · have gs := wV_getD (l := St) (i := i) (by omega)
    repeat (first | ((with_reducible refine Tr.step rfl ?_); ((refine xiQ (z := ?_)))) | (with_reducible first | apply Tr.next | apply Tr.seq | apply Tr.region | apply Tr.nil | apply Tr.skip | apply Tr.block) | (refine Tr.cond_t rfl (by first | (with_reducible assumption) | omega) ?_))
    (((apply Tr.draw); (kernel_rfl)); (refine tkQ 0 (hB := by exact fun _ h => h) (s := by exact Stab.move rfl) (h := ?_)); (refine tkQ 1 (s := by exact Stab.nilCheck rfl) (h := ?_)); (refine tkQ 2 (s := by exact Stab.indexArrB0 rfl rfl (tysOk.get rfl) rfl (tysOk.get rfl) rfl (by omega) (by omega)) (h := ?_)); (refine tkQ 4 (s := by exact Stab.assign rfl) (h := ?_)); (refine tkQ 3 (s := by exact Stab.load rfl (tysOk.get rfl) rfl (by repeat (first | exact Has.here | apply Has.there)) (by assumption)) (h := ?_)); (refine tkQ 5 (s := by exact Stab.assign rfl) (h := ?_)); (refine TrA.done (by kernel_rfl) ?_))
    generalize hx : St.getD i 0 = x
    repeat (first | ((with_reducible refine Tr.step rfl ?_); ((refine xmQ (z := ?_)))) | (with_reducible first | apply Tr.next | apply Tr.seq | apply Tr.region | apply Tr.nil | apply Tr.block))
    refine Tr.loop (α := Nat × List UInt8) (fun y => ⟨84, [(67, .int .i64 y.1), (9, .int .i64 i), (10, .int .u32 (x.toNat : Int)), (61, .int .i64 i), (60, .pointer (some ⟨bst, 0, none⟩)), (2, .pointer (some ⟨b2, 0, none⟩))], [], M1, box bst 118 (wV St) :: box b2 25 (byteV y.2) :: ([] ++ F)⟩)
      (fun y => y.1 ≤ 4 ∧ y.2.length = 32 ∧ ∀ q, q < 4 * i + y.1 → y.2.getD q 0 = outB St q) (fun y => 4 - y.1) (0, cur) ⟨by simp, hcl, fun q h => hq q (by simpa using h)⟩ hsQ (fun y hy => ?_)
    clear hq hcl
    obtain ⟨j, cur⟩ := y
    obtain ⟨hj, hcl, hq⟩ := hy
    simp only at hj hcl hq
    dsimp only
    have hcl' : (byteV cur).length = 32 := by simpa using hcl
    by_cases hjt : j < 4
    · have e24 : 24 - 8 * (j : Int) = ((24 - 8 * j : Nat) : Int) := by omega
      repeat (first | ((with_reducible refine Tr.step rfl ?_); (first | (refine xmQ (z := ?_)) | (refine xaQ (z := ?_)) | ((with_reducible refine Knd.binOp ?_); (first | (refine xdQ (z := ?_)) | (refine Exec.stab rfl (Stab.subi rfl rfl (by omega)) rfl ?_) | (refine Exec.stab rfl (Stab.muli rfl rfl (by omega)) rfl ?_) | (refine xiQ (z := ?_)))))) | (with_reducible first | apply Tr.next | apply Tr.seq | apply Tr.region | apply Tr.nil | apply Tr.skip | apply Tr.block) | (refine Tr.cond_t rfl (by first | (with_reducible assumption) | omega) ?_))
      rw [e24]
      refine Tr.step rfl ?_
      refine Exec.stab rfl (Stab.shrw (24 - 8 * j) rfl rfl rfl (by omega)) rfl ?_
      repeat (first | ((with_reducible refine Tr.step rfl ?_); (first | (refine xmQ (z := ?_)) | (refine xdQ (z := ?_)) | ((with_reducible refine Knd.store ?_); ((refine Exec.storeS rfl rfl (tysOk.get rfl) rfl (by first | rfl | assumption) (by repeat (first | exact Upd.here | apply Upd.there)) (by omega) ?_))) | ((with_reducible refine Knd.indexAddr ?_); ((refine Exec.stab rfl (Stab.indexArrB0 rfl rfl (tysOk.get rfl) rfl (tysOk.get rfl) rfl (by omega) (by omega)) rfl ?_))) | ((with_reducible refine Knd.convert ?_); ((refine Exec.stab rfl (Stab.wByte rfl (tysOk.get rfl) (tysOk.get rfl) rfl rfl) rfl ?_))))) | (with_reducible first | apply Tr.next | apply Tr.region | apply Tr.nil | apply Tr.in_normal))
      rw [show Int.toNat (4 * (i : Int) + (j : Int)) = 4 * i + j by omega, byteV_set]
      refine Tr.again (j + 1, cur.set (4 * i + j) (x >>> UInt32.ofNat (24 - 8 * j)).toUInt8) ⟨by simp only; omega, by simpa using hcl, fun q h => ?_⟩ (by simp only; omega) hsQ
      simp only at h ⊢
      by_cases e : q = 4 * i + j
      · subst e
        rw [List.getD_eq_getElem?_getD, List.getElem?_set_self (by omega), outB, show (4 * i + j) / 4 = i by omega, show (4 * i + j) % 4 = j by omega, hx]
        rfl
      · rw [List.getD_eq_getElem?_getD, List.getElem?_set_ne (by omega), ← List.getD_eq_getElem?_getD]
        exact hq q (by omega)
    · have e : j = 4 := by omega
      subst e
      repeat (first | ((with_reducible refine Tr.step rfl ?_); (first | (refine xmQ (z := ?_)) | ((with_reducible refine Knd.binOp ?_); (first | (refine xdQ (z := ?_)) | (refine xiQ (z := ?_)))))) | (with_reducible first | apply Tr.next | apply Tr.seq | apply Tr.region | apply Tr.nil | apply Tr.exit | apply Tr.then_exit | apply Tr.in_normal) | ((with_reducible refine Tr.in_exit ?_ ?_); (exact rfl)) | (refine Tr.cond_f rfl (by first | (with_reducible assumption) | omega) ?_))
      refine Tr.again (i + 1, cur) ⟨by simp only; omega, hcl, fun q h => hq q (by simp only at h; omega)⟩ (by simp only; omega) hsQ
  have e : i = 8 := by omega
  subst e
  have hout := out_done hcl (fun q h => hq q (by omega))
  have hcl' : (byteV cur).length = 32 := by simpa using hcl
  repeat (first | ((with_reducible refine Tr.step rfl ?_); (first | ((with_reducible refine Knd.load ?_); ((refine Exec.stab rfl (Stab.loadW rfl (tysOk.get rfl) rfl (by repeat (first | exact Has.here | apply Has.there)) (by assumption)) rfl ?_))) | (refine xiQ (z := ?_)) | ((with_reducible refine Knd.store ?_); ((refine Exec.storeW rfl rfl (tysOk.get rfl) (by repeat (first | exact Upd.here | apply Upd.there)) (by first | rfl | assumption) (by first | rfl | assumption) (by exact AllOne.bytes _) ?_))))) | (with_reducible first | apply Tr.next | apply Tr.seq | apply Tr.region | apply Tr.nil | apply Tr.exit | apply Tr.ret | apply Tr.then_exit) | ((with_reducible refine Tr.in_exit ?_ ?_); (exact rfl)) | (refine Tr.cond_f rfl (by first | (with_reducible assumption) | omega) ?_))
  (refine Tr.done (by first | exact .inl rfl | exact .inr rfl) rfl (by repeat (first | exact RVs.nil | (apply RVs.cons; (exact RV.cellW (by rfl) (tysOk.get (by rfl)) (by rfl) (by repeat (first | exact Has.here | apply Has.there)) (by first | rfl | assumption))))) (by first | exact Mem.le.refl _ | assumption) (by exact ⟨[_, _], rfl⟩) ⟨rfl, ?_⟩)
  show Value.agg (byteV cur).toArray = _
  rw [hout, ← hS, ← hP]
  rfl
end Go.Proofs.YtghjhdbmkilakaaGreatDoor.Dg

