/- A quotient, digit by digit from the top. -/
import Derived.Test.YtkidgeeedigkhaaNum4
namespace Go.Proofs.Ytkidgeeedigkhaa

structure DivInv (U0 V U Q : List Int) (k : Nat) : Prop where
  lim : Lim U
  limQ : Lim Q
  len : U.length = U0.length
  low : U.take k = U0.take k
  lt : val (U.drop k) < val V
  eq : val (U0.drop k) = val (Q.drop k) * val V + val (U.drop k)
/-- What lies above the window is nought. -/
theorem DivInv.win {U0 V U Q : List Int} {j : Nat} (h : DivInv U0 V U Q (j + 1)) (hV : Lim V) (hj : j + V.length < U.length) :
    val ((U.drop j).take (V.length + 1)) = val (U.drop j) ∧ val (U.drop j) < 4294967296 * val V ∧ val (U.drop (j + V.length + 1)) = 0 := by
  have hlt := h.lt
  have hv := val_lt hV
  have e1 := val_take_drop (U.drop (j + 1)) V.length (by simp; omega)
  rw [List.drop_drop] at e1
  have hz : val (U.drop (j + 1 + V.length)) = 0 := by
    rcases Nat.eq_zero_or_pos (val (U.drop (j + 1 + V.length))) with h0 | h0
    · exact h0
    · have := Nat.mul_le_mul_left (4294967296 ^ V.length) h0
      omega
  have e2 := val_take_drop (U.drop j) (V.length + 1) (by simp; omega)
  rw [List.drop_drop, show j + (V.length + 1) = j + 1 + V.length by omega, hz, Nat.mul_zero, Nat.add_zero] at e2
  have e3 := val_drop_eq U j (by omega)
  have hx := h.lim.getD j
  exact ⟨e2.symm, by omega, by rw [show j + V.length + 1 = j + 1 + V.length by omega]; exact hz⟩
theorem DivInv.step {U0 V U Q win' : List Int} {j : Nat} (h : DivInv U0 V U Q (j + 1)) (hV : Lim V) (hj : j + V.length < U.length) (hQ : j < Q.length)
    (hw : Lim win') (hwl : win'.length = V.length + 1) (hwv : val win' = val (U.drop j) % val V) :
    DivInv U0 V (U.take j ++ win' ++ U.drop (j + V.length + 1)) (Q.set j ((val (U.drop j) / val V : Nat) : Int)) j := by
  obtain ⟨w1, w2, w3⟩ := h.win hV hj
  have hVp : 0 < val V := by have := h.lt; omega
  have hq : val (U.drop j) / val V < 4294967296 := Nat.div_lt_of_lt_mul (by rw [Nat.mul_comm]; exact w2)
  have hpl : (U.take j).length = j := by simp; omega
  have hlow : (U.take j ++ win' ++ U.drop (j + V.length + 1)).take j = U.take j := by
    rw [List.append_assoc, List.take_append_of_le_length (by omega), List.take_of_length_le (by omega)]
  have hdrop : (U.take j ++ win' ++ U.drop (j + V.length + 1)).drop j = win' ++ U.drop (j + V.length + 1) := by
    rw [List.append_assoc, List.drop_append_of_le_length (by omega), List.drop_of_length_le (by omega), List.nil_append]
  have hval : val ((U.take j ++ win' ++ U.drop (j + V.length + 1)).drop j) = val (U.drop j) % val V := by
    rw [hdrop, val_append, w3, Nat.mul_zero, Nat.add_zero, hwv]
  have hl0 := h.low
  refine ⟨((h.lim.take j).append hw).append (h.lim.drop _), h.limQ.set j (Int.natCast_nonneg _) (Int.ofNat_lt.2 hq), ?_, ?_, ?_, ?_⟩
  · have := h.len
    simp; omega
  · rw [hlow]
    have := congrArg (List.take j) hl0
    rwa [List.take_take, List.take_take, Nat.min_eq_left (by omega)] at this
  · rw [hval]; exact Nat.mod_lt _ hVp
  · rw [hval, val_drop_set hQ, Int.toNat_natCast]
    have e0 := h.eq
    have hU0 := h.len
    have d0 := val_drop_eq U0 j (by omega)
    have d1 := val_drop_eq U j (by omega)
    have hg : U.getD j 0 = U0.getD j 0 := by
      have := congrArg (fun l => l[j]?) hl0
      simp only [List.getElem?_take, if_pos (show j < j + 1 by omega)] at this
      rw [List.getD_eq_getElem?_getD, List.getD_eq_getElem?_getD, this]
    rw [hg] at d1
    have hm := Nat.div_add_mod (val (U.drop j)) (val V)
    rw [d0, e0]
    generalize val (List.drop (j + 1) Q) = Qv at *
    generalize val (U.drop j) / val V = q at *
    generalize val (U.drop j) % val V = r at *
    grind
theorem DivInv.last {U0 V U Q : List Int} (h : DivInv U0 V U Q 0) : val Q = val U0 / val V ∧ val U = val U0 % val V := by
  have e := h.eq
  have l := h.lt
  simp only [List.drop_zero] at e l
  rw [e, Nat.mul_comm, Nat.mul_add_div (by omega), Nat.div_eq_of_lt l, Nat.mul_add_mod, Nat.mod_eq_of_lt l]
  omega

/-- The divisor, its top bit shifted up: as many limbs, and great. -/
theorem norm_len {b n : Nat} (hn : (digs b).length = n + 1) {s : Nat} (hs : s + blen ((digs b).getD n 0).toNat = 32) :
    (digs (b * 2 ^ s)).length = n + 1 ∧ 4294967296 ^ n * 2147483648 ≤ b * 2 ^ s := by
  have ht := top_ne_zero hn
  have hl := (digs_lim b).getD n
  have e := val_take_drop (digs b) n (by omega)
  rw [val_drop_eq _ n (by omega), val_drop_ge _ (n + 1) (by omega), val_digs, Nat.mul_zero, Nat.add_zero] at e
  have t1 := val_lt ((digs_lim b).take n)
  rw [List.length_take, Nat.min_eq_left (by omega)] at t1
  have ht0 : 0 < ((digs b).getD n 0).toNat := by omega
  generalize ((digs b).getD n 0).toNat = t at *
  have b1 := blen_le ht0
  have b2 := blen_lt t
  have b3 := blen_pos ht0
  have p1 : 2 ^ (blen t - 1) * 2 ^ s = 2147483648 := by rw [← Nat.pow_add, show blen t - 1 + s = 31 by omega]
  have p2 : 2 ^ blen t * 2 ^ s = 4294967296 := by rw [← Nat.pow_add, show blen t + s = 32 by omega]
  have c1 : t * 2 ^ s ≥ 2147483648 := by rw [← p1]; exact Nat.mul_le_mul_right _ b1
  have c2 : (t + 1) * 2 ^ s ≤ 4294967296 := by rw [← p2]; exact Nat.mul_le_mul_right _ b2
  have d1 : 4294967296 ^ n * 2147483648 ≤ b * 2 ^ s := by
    have x1 : 4294967296 ^ n * 2147483648 ≤ 4294967296 ^ n * (t * 2 ^ s) := Nat.mul_le_mul_left _ c1
    have x2 : 4294967296 ^ n * t * 2 ^ s ≤ b * 2 ^ s := Nat.mul_le_mul_right _ (by omega)
    rw [Nat.mul_assoc] at x2
    omega
  have d2 : b * 2 ^ s < 4294967296 ^ (n + 1) := by
    have x1 : 4294967296 ^ n * ((t + 1) * 2 ^ s) ≤ 4294967296 ^ n * 4294967296 := Nat.mul_le_mul_left _ c2
    have x2 : b * 2 ^ s < 4294967296 ^ n * (t + 1) * 2 ^ s := Nat.mul_lt_mul_of_pos_right (by rw [Nat.mul_add, Nat.mul_one]; omega) (Nat.pow_pos (by omega))
    rw [Nat.mul_assoc] at x2
    rw [Nat.pow_succ]
    omega
  refine ⟨?_, d1⟩
  have := digs_len_le d2
  rcases Nat.lt_or_ge (digs (b * 2 ^ s)).length (n + 1) with h1 | h1
  · have := (digs_len_lt_iff (n := b * 2 ^ s) (k := n)).1 (by omega)
    omega
  · omega
/-- The dividend, shifted, one limb longer: what the loop begins with. -/
theorem div_start {a b n la s : Nat} (ha : (digs a).length = la) (hn : n + 1 ≤ la) (hs31 : s ≤ 31) (hv : 4294967296 ^ n * 2147483648 ≤ b * 2 ^ s) :
    (digs (a * 2 ^ s)).length ≤ la + 1 ∧ val ((digs (a * 2 ^ s) ++ [0, 0]).take (la + 1)) = a * 2 ^ s ∧ ((digs (a * 2 ^ s) ++ [0, 0]).take (la + 1)).length = la + 1 ∧
      val (((digs (a * 2 ^ s) ++ [0, 0]).take (la + 1)).drop (la - n)) < b * 2 ^ s := by
  have h1 := digs_lt_pow a
  rw [ha] at h1
  have h2 : 2 ^ s ≤ 2 ^ 31 := Nat.pow_le_pow_right (by omega) hs31
  have h3 : a * 2 ^ s < 4294967296 ^ la * 2147483648 := Nat.lt_of_lt_of_le (Nat.mul_lt_mul_of_pos_right h1 (Nat.pow_pos (by omega))) (Nat.mul_le_mul_left _ h2)
  have h4 : (digs (a * 2 ^ s)).length ≤ la + 1 := digs_len_le (by rw [Nat.pow_succ]; exact Nat.lt_of_lt_of_le h3 (Nat.mul_le_mul_left _ (by omega)))
  have h5 : la ≤ (digs (a * 2 ^ s)).length := by
    rw [← ha]; exact digs_len_mono (Nat.le_mul_of_pos_right _ (Nat.pow_pos (by omega)))
  have h6 : val ((digs (a * 2 ^ s) ++ [0, 0]).take (la + 1)) = a * 2 ^ s := by
    rcases Nat.lt_or_ge la (digs (a * 2 ^ s)).length with h | h
    · rw [List.take_append_of_le_length (by omega), List.take_of_length_le (by omega), val_digs]
    · have e : (digs (a * 2 ^ s)).length = la := by omega
      rw [List.take_append, List.take_of_length_le (by omega), e, show la + 1 - la = 1 by omega]
      show val (digs (a * 2 ^ s) ++ [0]) = _
      rw [val_snoc_zero, val_digs]
  have h7 : ((digs (a * 2 ^ s) ++ [0, 0]).take (la + 1)).length = la + 1 := by simp; omega
  refine ⟨h4, h6, h7, ?_⟩
  have e := val_take_drop ((digs (a * 2 ^ s) ++ [0, 0]).take (la + 1)) (la - n) (by omega)
  rw [h6] at e
  have hp : 4294967296 ^ la = 4294967296 ^ (la - n) * 4294967296 ^ n := by rw [← Nat.pow_add, Nat.sub_add_cancel (by omega)]
  rw [hp, Nat.mul_assoc] at h3
  have : 4294967296 ^ (la - n) * val (((digs (a * 2 ^ s) ++ [0, 0]).take (la + 1)).drop (la - n)) < 4294967296 ^ (la - n) * (4294967296 ^ n * 2147483648) := by omega
  exact Nat.lt_of_lt_of_le (Nat.lt_of_mul_lt_mul_left this) hv
theorem div_shift (a b s : Nat) : a * 2 ^ s / (b * 2 ^ s) = a / b ∧ a * 2 ^ s % (b * 2 ^ s) / 2 ^ s = a % b := by
  have hp : 0 < 2 ^ s := Nat.pow_pos (by omega)
  refine ⟨Nat.mul_div_mul_right _ _ hp, ?_⟩
  rw [Nat.mul_mod_mul_right, Nat.mul_div_cancel _ hp]
end Go.Proofs.Ytkidgeeedigkhaa
