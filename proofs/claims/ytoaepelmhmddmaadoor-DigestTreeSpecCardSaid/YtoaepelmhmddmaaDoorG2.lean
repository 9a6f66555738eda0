/-
  The digest: SHA-256 as a function of lists of words.
  Conditions: none; plain Lean.
-/
import Derived.Test.YtoaepelmhmddmaaDoorG1
namespace Go.Proofs.YtoaepelmhmddmaaDoor
open Go Bf
def Kw : List UInt32 := [1116352408, 1899447441, 3049323471, 3921009573, 961987163, 1508970993, 2453635748, 2870763221, 3624381080, 310598401, 607225278, 1426881987, 1925078388, 2162078206, 2614888103, 3248222580, 3835390401, 4022224774, 264347078, 604807628, 770255983, 1249150122, 1555081692, 1996064986, 2554220882, 2821834349, 2952996808, 3210313671, 3336571891, 3584528711, 113926993, 338241895, 666307205, 773529912, 1294757372, 1396182291, 1695183700, 1986661051, 2177026350, 2456956037, 2730485921, 2820302411, 3259730800, 3345764771, 3516065817, 3600352804, 4094571909, 275423344, 430227734, 506948616, 659060556, 883997877, 958139571, 1322822218, 1537002063, 1747873779, 1955562222, 2024104815, 2227730452, 2361852424, 2428436474, 2756734187, 3204031479, 3329325298]
def Hw : List UInt32 := [1779033703, 3144134277, 1013904242, 2773480762, 1359893119, 2600822924, 528734635, 1541459225]
theorem Kw_length : Kw.length = 64 := by kernel_rfl
/-- a word that is put together out of bytes, so many of them -/
def acc (bs : List UInt8) (t : Nat) : Nat → UInt32
  | 0 => 0
  | i + 1 => (acc bs t i <<< UInt32.ofNat 8) ||| (bs.getD (4 * t + i) 0).toUInt32
/-- the first words of a block -/
def ws1 (bs : List UInt8) (t : Nat) : List UInt32 := (List.range t).map fun s => acc bs s 4
/-- one word more -/
def nxt (l : List UInt32) : UInt32 :=
  let n := l.length
  let x := l.getD (n - 15) 0
  let y := l.getD (n - 2) 0
  l.getD (n - 16) 0 + (rorw x 7 ^^^ rorw x 18 ^^^ (x >>> UInt32.ofNat 3)) + l.getD (n - 7) 0 + (rorw y 17 ^^^ rorw y 19 ^^^ (y >>> UInt32.ofNat 10))
def ws2 (bs : List UInt8) : Nat → List UInt32
  | 0 => ws1 bs 16
  | j + 1 => ws2 bs j ++ [nxt (ws2 bs j)]
theorem ws1_length (bs : List UInt8) (t : Nat) : (ws1 bs t).length = t := by simp [ws1]
theorem ws1_succ (bs : List UInt8) (t : Nat) : ws1 bs (t + 1) = ws1 bs t ++ [acc bs t 4] := by simp [ws1, List.range_succ]
theorem ws2_length (bs : List UInt8) (j : Nat) : (ws2 bs j).length = 16 + j := by
  induction j with
  | zero => exact ws1_length bs 16
  | succ j ih => rw [ws2, List.length_append, ih]; rfl
structure W8 where
  a : UInt32
  b : UInt32
  c : UInt32
  d : UInt32
  e : UInt32
  f : UInt32
  g : UInt32
  h : UInt32
def W8.l (x : W8) : List UInt32 := [x.a, x.b, x.c, x.d, x.e, x.f, x.g, x.h]
def W8.of (l : List UInt32) : W8 := ⟨l.getD 0 0, l.getD 1 0, l.getD 2 0, l.getD 3 0, l.getD 4 0, l.getD 5 0, l.getD 6 0, l.getD 7 0⟩
def pw (x : W8) (k w : UInt32) : UInt32 := x.h + (rorw x.e 6 ^^^ rorw x.e 11 ^^^ rorw x.e 25) + ((x.e &&& x.f) ^^^ (~~~x.e &&& x.g)) + k + w
def qw (x : W8) : UInt32 := (rorw x.a 2 ^^^ rorw x.a 13 ^^^ rorw x.a 22) + ((x.a &&& x.b) ^^^ (x.a &&& x.c) ^^^ (x.b &&& x.c))
def rnd (x : W8) (k w : UInt32) : W8 := ⟨pw x k w + qw x, x.a, x.b, x.c, x.d + pw x k w, x.e, x.f, x.g⟩
def rnds (ws : List UInt32) (x : W8) : Nat → W8
  | 0 => x
  | t + 1 => rnd (rnds ws x t) (Kw.getD t 0) (ws.getD t 0)
/-- the state after a block -/
def blkF (st : List UInt32) (bs : List UInt8) : List UInt32 := List.zipWith (· + ·) st (rnds (ws2 bs 48) (W8.of st) 64).l
theorem blkF_length {st : List UInt32} (bs : List UInt8) (h : st.length = 8) : (blkF st bs).length = 8 := by simp [blkF, h, W8.l]
theorem take_set_succ {α : Type} {l : List α} {i : Nat} (v : α) (h : i < l.length) : (l.set i v).take (i + 1) = l.take i ++ [v] := by
  rw [List.take_add_one, List.take_set_of_le (Nat.le_refl _), List.getElem?_set_self h]
  rfl
theorem wV_getD {l : List UInt32} {i : Nat} (h : i < l.length) : nthL (wV l) i = some (.int .u32 ((l.getD i 0).toNat : Int)) := by
  refine wV_get ?_
  rw [List.getD_eq_getElem?_getD, List.getElem?_eq_getElem h]
  rfl
theorem getD_take {l m : List UInt32} {n i : Nat} (h : l.take n = m) (hi : i < n) : l.getD i 0 = m.getD i 0 := by
  subst h
  rw [List.getD_eq_getElem?_getD, List.getD_eq_getElem?_getD, List.getElem?_take, if_pos hi]
/-- where words lie in immutable memory -/
theorem at_word {M : Mem} {g : Nat} {l : List UInt32} (h : At M ⟨g, 0, none⟩ (wV l)) {t : Nat} (ht : t < l.length) : ∃ cs, At M ⟨g, t, none⟩ (.int .u32 ((l.getD t 0).toNat : Int) :: cs) := by
  have := h.drop t
  rw [Addr.add_lit, Nat.zero_add] at this
  have e : (wV l).drop t = .int .u32 ((l.getD t 0).toNat : Int) :: (wV l).drop (t + 1) := by
    rw [List.drop_eq_getElem_cons (by simpa using ht)]
    simp [wV, ht]
  rw [e] at this
  exact ⟨_, this⟩
end Go.Proofs.YtoaepelmhmddmaaDoor
