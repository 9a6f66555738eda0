/-
  The codec: the plain laws of reading and writing.
  Conditions: none; plain Lean over the functions of C2, C3, C4, C6, C7.
-/
import Derived.Test.YtgcjpicnibeemaaC5
import Derived.Test.YtgcjpicnibeemaaC9
namespace Go.Proofs.Ytgcjpicnibeemaa
open Go Bf
theorem ofNat_toNat8 {u : Nat} (h : u < 256) : (UInt8.ofNat u).toNat = u := by simp [UInt8.toNat_ofNat', Nat.mod_eq_of_lt h]
theorem rdN_num : ∀ (u i : Nat) (r : List UInt8), i ≤ 9 → u * 2 ^ (7 * i) < 2 ^ 64 → (0 < i → 0 < u) → rdN i (num u ++ r) = some (u * 2 ^ (7 * i), r) := by
  intro u
  induction u using Nat.strongRecOn with
  | _ u ih =>
    intro i r hi hu h0
    by_cases h : u < 128
    · rw [num_small h]
      show rdN i (UInt8.ofNat u :: r) = _
      rw [rdN, ofNat_toNat8 (by omega)]
      have h9 : ¬ (i = 9 ∧ 1 < u) := by
        rintro ⟨rfl, h1⟩
        have : (2 : Nat) ^ (7 * 9) = 9223372036854775808 := by decide
        omega
      rw [if_neg h9, if_pos h, if_neg (by omega)]
    · rw [num_big (by omega)]
      show rdN i (UInt8.ofNat (u % 128 + 128) :: (num (u / 128) ++ r)) = _
      have hp : (2 : Nat) ^ (7 * (i + 1)) = 128 * 2 ^ (7 * i) := by rw [show 7 * (i + 1) = 7 * i + 7 by omega, Nat.pow_add]; omega
      have hsum : u % 128 * 2 ^ (7 * i) + u / 128 * 2 ^ (7 * (i + 1)) = u * 2 ^ (7 * i) := by
        rw [hp, ← Nat.mul_assoc, ← Nat.add_mul]
        congr 1
        omega
      have h9 : i ≠ 9 := by
        rintro rfl
        have : (2 : Nat) ^ (7 * 9) = 9223372036854775808 := by decide
        omega
      rw [rdN, ofNat_toNat8 (by omega), if_neg (by omega), if_neg (by omega), ih (u / 128) (by omega) (i + 1) r (by omega) (by omega) (fun _ => by omega)]
      simp only [Option.map_some]
      rw [show (u % 128 + 128) % 128 = u % 128 by omega, hsum]
theorem rdN0_num {u : Nat} (r : List UInt8) (hu : u < 2 ^ 64) : rdN 0 (num u ++ r) = some (u, r) := by
  have := rdN_num u 0 r (by omega) (by simpa using hu) (by omega)
  simpa using this
theorem rdN_inv : ∀ (bs : List UInt8) (i v : Nat) (r : List UInt8), i ≤ 9 → rdN i bs = some (v, r) → ∃ u, v = u * 2 ^ (7 * i) ∧ bs = num u ++ r ∧ (0 < i → 0 < u) := by
  intro bs
  induction bs with
  | nil => intro i v r _ h; cases h
  | cons c bs ih =>
    intro i v r hi h
    have hc := c.toNat_lt
    rw [rdN] at h
    split at h
    · cases h
    · rename_i h9
      split at h
      · rename_i h128
        split at h
        · cases h
        · rename_i h0
          simp only [Option.some.injEq, Prod.mk.injEq] at h
          obtain ⟨rfl, rfl⟩ := h
          refine ⟨c.toNat, rfl, ?_, fun _ => by omega⟩
          rw [num_small h128, UInt8.ofNat_toNat]
          rfl
      · rename_i h128
        cases hr : rdN (i + 1) bs with
        | none => rw [hr] at h; cases h
        | some x =>
          obtain ⟨v', r'⟩ := x
          rw [hr] at h
          simp only [Option.map_some, Option.some.injEq, Prod.mk.injEq] at h
          obtain ⟨rfl, rfl⟩ := h
          obtain ⟨u', rfl, rfl, hpos⟩ := ih (i + 1) v' r' (by omega) hr
          have hpos := hpos (by omega)
          have hp : (2 : Nat) ^ (7 * (i + 1)) = 128 * 2 ^ (7 * i) := by rw [show 7 * (i + 1) = 7 * i + 7 by omega, Nat.pow_add]; omega
          refine ⟨c.toNat % 128 + u' * 128, ?_, ?_, fun _ => by omega⟩
          · rw [hp, ← Nat.mul_assoc, ← Nat.add_mul]
          · rw [num_big (u := c.toNat % 128 + u' * 128) (by omega), show (c.toNat % 128 + u' * 128) % 128 + 128 = c.toNat by omega, show (c.toNat % 128 + u' * 128) / 128 = u' by omega, UInt8.ofNat_toNat]
            rfl
theorem rdN0_inv {bs r : List UInt8} {v : Nat} (h : rdN 0 bs = some (v, r)) : bs = num v ++ r := by
  obtain ⟨u, rfl, h, -⟩ := rdN_inv bs 0 v r (by omega) h
  simpa using h
theorem unzz_zz (n : Int) : unzz (zz n) = n := by
  unfold unzz zz
  split <;> split <;> omega
theorem zz_unzz (u : Nat) : zz (unzz u) = u := by
  unfold unzz zz
  split <;> split <;> omega
/-- every number of a value is one of 64 bits -/
inductive Ok64 : Val → Prop
  | mk {k n : Int} {s : List UInt8} {l : List Val} (hn : -9223372036854775808 ≤ n ∧ n ≤ 9223372036854775807) (h : ∀ x ∈ l, Ok64 x) : Ok64 (.mk k n s l)
theorem Ok64.n {v : Val} (h : Ok64 v) : -9223372036854775808 ≤ v.n ∧ v.n ≤ 9223372036854775807 := by cases h; assumption
theorem Ok64.l {v : Val} (h : Ok64 v) : ∀ x ∈ v.l, Ok64 x := by cases h; assumption
theorem RVal.ok64 {M : Mem} {cs : List Value} {v : Val} (h : RVal M cs v) : Ok64 v := by
  induction h with
  | mk k n s l A c cells hk hn hs h1 h2 h3 h4 h5 ih =>
    refine .mk hn fun x hx => ?_
    obtain ⟨i, hi⟩ := List.mem_iff_getElem?.1 hx
    exact ih i x hi
theorem RV.ok64 {M : Mem} {r : Value} {v : Val} (h : RV M r v) : Ok64 v := h.choose_spec.2.ok64
theorem depthL_mem {l : List Val} {x : Val} (h : x ∈ l) : depth x ≤ depthL l := by
  induction l with
  | nil => cases h
  | cons y l ih =>
    rw [depthL]
    rcases List.mem_cons.1 h with rfl | h
    · omega
    · have := ih h; omega
theorem rdL_enc {f : List UInt8 → Option (Val × List UInt8)} (rest : List UInt8) : ∀ (l : List Val), (∀ x ∈ l, ∀ r, f (enc x ++ r) = some (x, r)) → rdL f l.length (encL l ++ rest) = some (l, rest)
  | [], _ => rfl
  | x :: l, h => by
    rw [encL, List.length_cons, rdL, List.append_assoc, h x (by simp)]
    dsimp only
    rw [rdL_enc rest l (fun y hy => h y (by simp [hy]))]
theorem depth3 {v : Val} (h : v.k = 3) : depth v = depthL v.l + 1 := by
  cases v with
  | mk k n s l => have h : k = 3 := h; rw [depth, if_pos h]; rfl
theorem pure_cases {v : Val} (h : formed v = true) : (∃ n, v = .mk 1 n [] []) ∨ (∃ s, v = .mk 2 0 s []) ∨ (∃ l, v = .mk 3 0 [] l) := by
  cases v with
  | mk k n s l =>
    rw [formed_eq, Bool.and_eq_true] at h
    have h := h.1
    simp only [pureOk, Bool.or_eq_true, Bool.and_eq_true, decide_eq_true_eq, List.isEmpty_iff, Val.k, Val.n, Val.s, Val.l] at h
    rcases h with (⟨⟨h1, h2⟩, h3⟩ | ⟨⟨h1, h2⟩, h3⟩) | ⟨⟨h1, h2⟩, h3⟩
    · obtain rfl := of_decide_eq_true h1
      subst h2 h3
      exact .inl ⟨_, rfl⟩
    · obtain rfl := of_decide_eq_true h1
      obtain rfl := of_decide_eq_true h2
      subst h3
      exact .inr (.inl ⟨_, rfl⟩)
    · obtain rfl := of_decide_eq_true h1
      obtain rfl := of_decide_eq_true h2
      subst h3
      exact .inr (.inr ⟨_, rfl⟩)
theorem rdStep_enc (sub : Option (List UInt8 → Option (Val × List UInt8))) (v : Val) (rest : List UInt8) (hf : formed v = true) (ho : Ok64 v) (hl : (enc v).length ≤ 1000000000000)
    (hs : v.k = 3 → v.l.length < 2 ^ 64 → ∃ f, sub = some f ∧ ∀ x ∈ v.l, ∀ r, f (enc x ++ r) = some (x, r)) (hll : v.l.length < 2 ^ 64) : rdStep sub (enc v ++ rest) = some (v, rest) := by
  rcases pure_cases hf with ⟨n, rfl⟩ | ⟨s, rfl⟩ | ⟨l, rfl⟩
  · rw [enc1 rfl, List.cons_append, rdStep_cons, if_pos (by decide)]
    rw [rdN0_num rest (zz_lt ho.n)]
    show some _ = some _
    dsimp only
    rw [unzz_zz]
    rfl
  · rw [enc2 rfl] at hl ⊢
    have hsl : s.length < 2 ^ 64 := by
      have : (2 :: (num s.length ++ s)).length ≤ 1000000000000 := hl
      simp at this; omega
    rw [List.cons_append, rdStep_cons, if_neg (by decide), if_pos (by decide)]
    show (match rdN 0 (num s.length ++ s ++ rest) with | none => none | some (n, r) => if n ≤ r.length then some (Val.mk 2 0 (r.take n) [], r.drop n) else none) = _
    rw [List.append_assoc, rdN0_num _ hsl]
    dsimp only
    rw [if_pos (by simp)]
    simp
  · rw [enc3 rfl] at hl ⊢
    obtain ⟨f, rfl, hs2⟩ := hs rfl hll
    rw [List.cons_append, rdStep_cons, if_neg (by decide), if_neg (by decide), if_pos (by decide)]
    show (match rdN 0 (num l.length ++ encL l ++ rest) with | none => none | some (n, r) => (rdL f n r).map fun (x : List Val × List UInt8) => (Val.mk 3 0 [] x.1, x.2)) = _
    have hll : l.length < 2 ^ 64 := hll
    rw [List.append_assoc, rdN0_num _ hll]
    dsimp only
    rw [rdL_enc rest l hs2]
    rfl
theorem enc_pos {v : Val} (h : formed v = true) : 1 ≤ (enc v).length := by
  rcases formed_k h with h1 | h1 | h1
  · rw [enc1 h1]; simp
  · rw [enc2 h1]; simp
  · rw [enc3 h1]; simp
theorem encL_len {l : List Val} (h : ∀ x ∈ l, formed x = true) : l.length ≤ (encL l).length := by
  induction l with
  | nil => simp
  | cons x l ih =>
    have h1 := enc_pos (h x (by simp))
    have h2 := ih (fun y hy => h y (by simp [hy]))
    rw [encL, List.length_append, List.length_cons]
    omega
theorem formed_ll {v : Val} (hf : formed v = true) (hl : (enc v).length ≤ 1000000000000) : v.l.length < 2 ^ 64 := by
  rcases pure_cases hf with ⟨n, rfl⟩ | ⟨s, rfl⟩ | ⟨l, rfl⟩
  · show 0 < 2 ^ 64; omega
  · show 0 < 2 ^ 64; omega
  · rw [enc3 rfl] at hl
    have := encL_len (l := l) (fun x hx => formed_mem hf hx)
    have hl : (3 :: (num l.length ++ encL l)).length ≤ 1000000000000 := hl
    show l.length < 2 ^ 64
    simp at hl
    omega
theorem enc_mem3 {v x : Val} (h3 : v.k = 3) (hx : x ∈ v.l) : (enc x).length < (enc v).length := by
  rw [enc3 h3]
  have := enc_mem hx
  simp
  omega
theorem rdV_enc : ∀ (room : Nat) (v : Val) (rest : List UInt8), formed v = true → depth v ≤ room → Ok64 v → (enc v).length ≤ 1000000000000 → rdV room (enc v ++ rest) = some (v, rest) := by
  intro room
  induction room with
  | zero =>
    intro v rest hf hd ho hl
    exact rdStep_enc none v rest hf ho hl (fun h3 => by rw [depth3 h3] at hd; omega) (formed_ll hf hl)
  | succ room ih =>
    intro v rest hf hd ho hl
    refine rdStep_enc (some (rdV room)) v rest hf ho hl (fun h3 _ => ⟨_, rfl, fun x hx r => ?_⟩) (formed_ll hf hl)
    rw [depth3 h3] at hd
    have h1 := depthL_mem hx
    have h2 := enc_mem3 h3 hx
    exact ih x r (formed_mem hf hx) (by omega) (ho.l x hx) (by omega)
theorem rdL_inv {f : List UInt8 → Option (Val × List UInt8)} {P : Val → Prop} (hf : ∀ bs v r, f bs = some (v, r) → P v ∧ bs = enc v ++ r) : ∀ (n : Nat) (bs : List UInt8) (l : List Val) (r : List UInt8), rdL f n bs = some (l, r) → l.length = n ∧ (∀ x ∈ l, P x) ∧ bs = encL l ++ r
  | 0, bs, l, r, h => by
    rw [rdL] at h
    cases h
    exact ⟨rfl, by simp, by simp [encL]⟩
  | n + 1, bs, l, r, h => by
    rw [rdL] at h
    split at h
    · cases h
    · rename_i v r1 h1
      split at h
      · cases h
      · rename_i l2 r2 h2
        cases h
        obtain ⟨p1, p2⟩ := hf _ _ _ h1
        obtain ⟨q1, q2, q3⟩ := rdL_inv hf n _ _ _ h2
        refine ⟨by simp [q1], ?_, by rw [p2, q3, encL, List.append_assoc]⟩
        intro x hx
        rcases List.mem_cons.1 hx with rfl | hx
        · exact p1
        · exact q2 x hx
theorem depthL_max {l : List Val} {m : Nat} (h : ∀ x ∈ l, depth x ≤ m) : depthL l ≤ m := by
  induction l with
  | nil => simp [depthL]
  | cons x l ih =>
    rw [depthL]
    have h1 := h x (by simp)
    have h2 := ih (fun y hy => h y (by simp [hy]))
    omega
theorem rdStep_inv {sub : Option (List UInt8 → Option (Val × List UInt8))} {m : Nat} {bs r : List UInt8} {v : Val} (hs : ∀ f, sub = some f → ∃ m', m = m' + 1 ∧ ∀ bs v r, f bs = some (v, r) → (formed v = true ∧ depth v ≤ m' ∧ Ok64 v) ∧ bs = enc v ++ r)
    (h : rdStep sub bs = some (v, r)) : (formed v = true ∧ depth v ≤ m ∧ Ok64 v) ∧ bs = enc v ++ r := by
  cases bs with
  | nil => cases h
  | cons k bs =>
    rw [rdStep_cons] at h
    have hk0 : ∀ {u : Nat}, u < 256 → k.toNat = u → k = UInt8.ofNat u := fun hu he => by rw [← he, UInt8.ofNat_toNat]
    split at h
    · rename_i hk
      cases hr : rdN 0 bs with
      | none => rw [hr] at h; cases h
      | some x =>
        obtain ⟨u, r'⟩ := x
        rw [hr] at h
        simp only [Option.map_some, Option.some.injEq, Prod.mk.injEq] at h
        obtain ⟨rfl, rfl⟩ := h
        have hlt := (rdN_lt (by omega) hr).1
        refine ⟨⟨rfl, by simp [depth], .mk ?_ (by simp)⟩, ?_⟩
        · unfold unzz; split <;> omega
        · rw [enc1 rfl, rdN0_inv hr, hk0 (by omega) hk]
          show _ = 1 :: num (zz (unzz u)) ++ r'
          rw [zz_unzz]
          rfl
    · split at h
      · rename_i hk1 hk
        split at h
        · cases h
        · rename_i n r' hr
          split at h
          · rename_i hn
            simp only [Option.some.injEq, Prod.mk.injEq] at h
            obtain ⟨rfl, rfl⟩ := h
            refine ⟨⟨by simp [formed, formedL], by simp [depth], .mk (by omega) (by simp)⟩, ?_⟩
            rw [enc2 rfl, rdN0_inv hr, hk0 (by omega) hk]
            show _ = 2 :: (num (r'.take n).length ++ r'.take n) ++ r'.drop n
            rw [List.length_take, Nat.min_eq_left hn, List.cons_append, List.append_assoc, List.take_append_drop]
            rfl
          · cases h
      · split at h
        · rename_i hk1 hk2 hk
          split at h
          · cases h
          · rename_i f
            obtain ⟨m', rfl, hs2⟩ := hs f rfl
            split at h
            · cases h
            · rename_i n r' hr
              cases hr2 : rdL f n r' with
              | none => rw [hr2] at h; cases h
              | some x =>
                obtain ⟨l, r2⟩ := x
                rw [hr2] at h
                simp only [Option.map_some, Option.some.injEq, Prod.mk.injEq] at h
                obtain ⟨rfl, rfl⟩ := h
                obtain ⟨q1, q2, q3⟩ := rdL_inv (P := fun v => formed v = true ∧ depth v ≤ m' ∧ Ok64 v) hs2 n r' l r2 hr2
                refine ⟨⟨?_, ?_, .mk (by omega) fun x hx => (q2 x hx).2.2⟩, ?_⟩
                · rw [formed, formedL_all, Bool.and_eq_true]
                  exact ⟨by simp, List.all_eq_true.2 fun x hx => (q2 x hx).1⟩
                · rw [depth, if_pos rfl]
                  have := depthL_max fun x hx => (q2 x hx).2.1
                  omega
                · rw [enc3 rfl, rdN0_inv hr, hk0 (by omega) hk, q3]
                  show _ = 3 :: (num l.length ++ encL l) ++ r2
                  rw [q1, List.cons_append, List.append_assoc]
                  rfl
        · cases h
theorem rdV_inv : ∀ (room : Nat) (bs : List UInt8) (v : Val) (r : List UInt8), rdV room bs = some (v, r) → (formed v = true ∧ depth v ≤ room ∧ Ok64 v) ∧ bs = enc v ++ r := by
  intro room
  induction room with
  | zero => exact fun bs v r h => rdStep_inv (sub := none) (fun f hf => by cases hf) h
  | succ room ih => exact fun bs v r h => rdStep_inv (sub := some (rdV room)) (fun f hf => by cases hf; exact ⟨room, rfl, ih⟩) h
theorem chk_zero {v : Val} : chk v = 0 ↔ formed v = true ∧ depth v ≤ 16 := by
  unfold chk
  constructor
  · intro h
    split at h
    · rename_i hf
      split at h
      · rename_i hd; exact ⟨hf, hd⟩
      · omega
    · omega
  · rintro ⟨hf, hd⟩
    rw [if_pos hf, if_pos hd]
theorem decF_enc {v : Val} (hc : chk v = 0) (ho : Ok64 v) (hl : (enc v).length ≤ 1000000000000) : decF (enc v) = (v, 0) := by
  obtain ⟨hf, hd⟩ := chk_zero.1 hc
  have := rdV_enc 16 v [] hf hd ho hl
  rw [List.append_nil] at this
  unfold decF
  rw [this]
theorem decF_cases (bs : List UInt8) : decF bs = (zVal, 10) ∨ ∃ v, decF bs = (v, 0) ∧ chk v = 0 ∧ enc v = bs ∧ Ok64 v := by
  unfold decF
  split
  · rename_i v h
    obtain ⟨⟨h1, h2, h3⟩, h4⟩ := rdV_inv 16 _ _ _ h
    exact .inr ⟨v, rfl, chk_zero.2 ⟨h1, h2⟩, by rw [h4, List.append_nil], h3⟩
  · exact .inl rfl
/-- no encoding is the beginning of another -/
theorem enc_prefix {v w : Val} {rest : List UInt8} (hv : chk v = 0) (hw : chk w = 0) (ov : Ok64 v) (ow : Ok64 w) (lv : (enc v).length ≤ 1000000000000) (lw : (enc w).length ≤ 1000000000000) (h : enc w = enc v ++ rest) : v = w := by
  obtain ⟨hf, hd⟩ := chk_zero.1 hv
  obtain ⟨hf2, hd2⟩ := chk_zero.1 hw
  have h1 := rdV_enc 16 v rest hf hd ov lv
  have h2 := rdV_enc 16 w [] hf2 hd2 ow lw
  rw [List.append_nil, h, h1] at h2
  simp only [Option.some.injEq, Prod.mk.injEq] at h2
  exact h2.1
theorem enc_take {v w : Val} (hv : chk v = 0) (hw : chk w = 0) (ov : Ok64 v) (ow : Ok64 w) (lv : (enc v).length ≤ 1000000000000) (lw : (enc w).length ≤ 1000000000000)
    (h : (enc v).take (min (enc v).length (enc w).length) = (enc w).take (min (enc v).length (enc w).length)) : v = w := by
  by_cases hl : (enc v).length ≤ (enc w).length
  · rw [Nat.min_eq_left hl, List.take_length] at h
    refine enc_prefix (rest := (enc w).drop (enc v).length) hv hw ov ow lv lw ?_
    have e := List.take_append_drop (enc v).length (enc w)
    rw [← h] at e
    exact e.symm
  · rw [Nat.min_eq_right (by omega), List.take_length] at h
    refine (enc_prefix (rest := (enc v).drop (enc w).length) hw hv ow ov lw lv ?_).symm
    have e := List.take_append_drop (enc w).length (enc v)
    rw [h] at e
    exact e.symm
end Go.Proofs.Ytgcjpicnibeemaa
