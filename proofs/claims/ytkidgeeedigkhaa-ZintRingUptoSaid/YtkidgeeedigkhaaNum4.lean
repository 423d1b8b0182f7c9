/- One digit of a quotient: guessed, taken away, given back. -/
import Derived.Test.YtkidgeeedigkhaaNum3
namespace Go.Proofs.Ytkidgeeedigkhaa

/-- After k rounds of a difference with q times V. -/
structure WinInv (X V o : List Int) (k : Nat) (q c b : Int) : Prop where
  len : o.length = X.length
  tail : o.drop k = X.drop k
  c0 : 0 ≤ c
  c1 : c < 4294967296
  b0 : 0 ≤ b
  b1 : b ≤ 1
  last : V.length < k → c = 0
  eq : val (X.take k) + 4294967296 ^ k * (b.toNat + c.toNat) = val (o.take k) + q.toNat * val (V.take k)
theorem getD_of_drop {a b : List Int} {k : Nat} (h : a.drop k = b.drop k) : a.getD k 0 = b.getD k 0 := by
  have h1 : (a.drop k)[0]? = (b.drop k)[0]? := by rw [h]
  rw [List.getElem?_drop, List.getElem?_drop, Nat.add_zero] at h1
  rw [List.getD_eq_getElem?_getD, List.getD_eq_getElem?_getD, h1]
theorem drop_set_succ {a b : List Int} {k : Nat} {x : Int} (h : a.drop k = b.drop k) : (a.set k x).drop (k + 1) = b.drop (k + 1) := by
  rw [List.drop_set_of_lt (by omega)]
  have : (a.drop k).drop 1 = (b.drop k).drop 1 := by rw [h]
  rwa [List.drop_drop, List.drop_drop] at this
theorem WinInv.start (X V : List Int) (q : Int) : WinInv X V X 0 q 0 0 := ⟨rfl, rfl, by omega, by omega, by omega, by omega, by omega, by simp [val]⟩
theorem sub_limb (x p b : Int) (hx : 0 ≤ x ∧ x < 4294967296) (hp : 0 ≤ p) (hb : 0 ≤ b ∧ b ≤ 1) :
    x.toNat + 4294967296 * ((if x - p % 4294967296 - b < 0 then (1 : Int) else 0).toNat + (p / 4294967296).toNat) = ((x - p % 4294967296 - b) % 4294967296).toNat + b.toNat + p.toNat := by
  split <;> omega
theorem WinInv.step {X V o : List Int} {k : Nat} {q c b : Int} (h : WinInv X V o k q c b) (hX : Lim X) (hV : Lim V) (hq : 0 ≤ q ∧ q < 4294967296) (hk : k < X.length) :
    WinInv X V (o.set k ((X.getD k 0 - (c + q * V.getD k 0) % 4294967296 - b) % 4294967296)) (k + 1) q ((c + q * V.getD k 0) / 4294967296) (if X.getD k 0 - (c + q * V.getD k 0) % 4294967296 - b < 0 then 1 else 0) := by
  have hx := hX.getD k
  have hv := hV.getD k
  have hp := mul_lim hq hv
  have h0 := h.c0
  have h1 := h.c1
  have h2 := h.b0
  have h3 := h.b1
  refine ⟨by rw [List.length_set]; exact h.len, drop_set_succ h.tail, by omega, by omega, by split <;> omega, by split <;> omega, ?_, ?_⟩
  · intro hl
    have : V.getD k 0 = 0 := by rw [List.getD_eq_getElem?_getD, List.getElem?_eq_none (by omega)]; rfl
    rw [this, Int.mul_zero]
    omega
  · have e := h.eq
    have hs := sub_limb (X.getD k 0) (c + q * V.getD k 0) b hx (by omega) ⟨h2, h3⟩
    rw [val_set_take _ _ _ (by rw [h.len]; exact hk), val_take_succ' X, val_take_succ' V, Nat.pow_succ]
    have hm : (c + q * V.getD k 0).toNat = c.toNat + q.toNat * (V.getD k 0).toNat := by rw [Int.toNat_add h0 hp.1, Int.toNat_mul hq.1 hv.1]
    rw [hm] at hs
    generalize (if X.getD k 0 - (c + q * V.getD k 0) % 4294967296 - b < 0 then (1 : Int) else 0).toNat = b' at *
    generalize ((c + q * V.getD k 0) / 4294967296).toNat = c' at *
    generalize ((X.getD k 0 - (c + q * V.getD k 0) % 4294967296 - b) % 4294967296).toNat = r at *
    generalize (X.getD k 0).toNat = x at *
    generalize (V.getD k 0).toNat = v at *
    generalize 4294967296 ^ k = Bk at *
    have : Bk * (x + 4294967296 * (b' + c')) = Bk * (r + b.toNat + (c.toNat + q.toNat * v)) := by rw [hs]
    grind

/-- What is left, with what has been taken too much. -/
structure BackInv (W V n : Nat) (o : List Int) (q b : Int) : Prop where
  lim : Lim o
  len : o.length = n
  q0 : 0 ≤ q
  q1 : q < 4294967296
  b0 : 0 ≤ b
  b1 : b ≤ 1
  eq : W + b.toNat * 4294967296 ^ n = val o + q.toNat * V
  up : W < (q.toNat + 1) * V
theorem WinInv.back {X V o : List Int} {q c b : Int} (h : WinInv X V o X.length q c b) (ho : Lim o) (hl : V.length < X.length) (hq : 0 ≤ q ∧ q < 4294967296) (hup : val X < (q.toNat + 1) * val V) : BackInv (val X) (val V) X.length o q b := by
  have e := h.eq
  rw [h.last hl, List.take_length, List.take_of_length_le (l := o) (by rw [h.len]; exact Nat.le_refl _), List.take_of_length_le (l := V) (by omega)] at e
  exact ⟨ho, h.len, hq.1, hq.2, h.b0, h.b1, by rw [Int.toNat_zero, Nat.add_zero, Nat.mul_comm] at e; exact e, hup⟩
theorem BackInv.pos {W V n : Nat} {o : List Int} {q b : Int} (h : BackInv W V n o q b) (hb : 0 < b) : 1 ≤ q := by
  have h1 := h.b1
  have e := h.eq
  have t := val_lt h.lim
  rw [h.len] at t
  have h0 := h.q0
  rw [show b = 1 by omega] at e
  rcases Int.lt_or_le q 1 with hq | hq
  · rw [show q = 0 by omega, Int.toNat_zero, Nat.zero_mul] at e
    have : (1 : Int).toNat = 1 := rfl
    rw [this] at e
    omega
  · exact hq
theorem BackInv.step {W V n : Nat} {o o' : List Int} {Y : List Int} {q b c : Int} (h : BackInv W V n o q b) (hb : 0 < b) (hi : AddInv o Y o' n c) (ho' : Lim o') (hl : o'.length = n) (hY : val Y = V) (hYl : Y.length ≤ n) : BackInv W V n o' (q - 1) (b - c) := by
  have h1 := h.b1
  have e := h.eq
  have t := val_lt h.lim
  rw [h.len] at t
  have hp := h.pos hb
  have c0 := hi.c0
  have c1 := hi.c1
  have q1 := h.q1
  have ei := hi.eq
  rw [List.take_of_length_le (by omega), List.take_of_length_le (l := o) (by rw [h.len]; exact Nat.le_refl _), List.take_of_length_le (l := Y) hYl, hY] at ei
  have hb1 : b = 1 := by omega
  subst hb1
  have e1 : (1 : Int).toNat = 1 := rfl
  rw [e1, Nat.one_mul] at e
  obtain ⟨Q, hQ⟩ : ∃ Q, q.toNat = Q + 1 := ⟨q.toNat - 1, by omega⟩
  have hq' : (q - 1).toNat = Q := by omega
  rw [hQ, Nat.add_mul, Nat.one_mul] at e
  refine ⟨ho', hl, by omega, by omega, by omega, by omega, ?_, ?_⟩
  · rw [hq']
    have hc : (1 - c).toNat + c.toNat = 1 := by omega
    have : (1 - c).toNat * 4294967296 ^ n + 4294967296 ^ n * c.toNat = 4294967296 ^ n := by rw [Nat.mul_comm (4294967296 ^ n), ← Nat.add_mul, hc, Nat.one_mul]
    omega
  · rw [hq', Nat.add_mul, Nat.one_mul]
    omega
theorem BackInv.last {W V n : Nat} {o : List Int} {q : Int} (h : BackInv W V n o q 0) : q = ((W / V : Nat) : Int) ∧ val o = W % V := by
  have e := h.eq
  have u := h.up
  have q0 := h.q0
  rw [show (0 : Int).toNat = 0 from rfl, Nat.zero_mul, Nat.add_zero] at e
  rw [Nat.add_mul, Nat.one_mul] at u
  have hV : val o < V := by omega
  rw [e, Nat.mul_comm, Nat.add_comm, Nat.mul_add_div (by omega), Nat.div_eq_of_lt hV, Nat.mul_add_mod, Nat.mod_eq_of_lt hV]
  omega
theorem guess_up {X V : List Int} {n : Nat} (hX : Lim X) (hV : Lim V) (hXl : X.length = n + 2) (hVl : V.length = n + 1) (htop : 0 < V.getD n 0) (hW : val X < 4294967296 * val V) :
    0 ≤ min ((X.getD (n + 1) 0 * 4294967296 + X.getD n 0) / V.getD n 0) 4294967295 ∧ min ((X.getD (n + 1) 0 * 4294967296 + X.getD n 0) / V.getD n 0) 4294967295 < 4294967296 ∧
      val X < ((min ((X.getD (n + 1) 0 * 4294967296 + X.getD n 0) / V.getD n 0) 4294967295).toNat + 1) * val V := by
  have hx := hX.getD n
  have hx1 := hX.getD (n + 1)
  have hv := hV.getD n
  have hd0 : 0 ≤ (X.getD (n + 1) 0 * 4294967296 + X.getD n 0) / V.getD n 0 := Int.ediv_nonneg (by omega) hv.1
  refine ⟨by omega, by omega, ?_⟩
  rcases Int.lt_or_le 4294967295 ((X.getD (n + 1) 0 * 4294967296 + X.getD n 0) / V.getD n 0) with hq | hq
  · rw [Int.min_eq_right (by omega)]
    exact hW
  · rw [Int.min_eq_left hq]
    have hm := Int.lt_mul_ediv_self_add (x := X.getD (n + 1) 0 * 4294967296 + X.getD n 0) htop
    have e1 := val_take_drop X n (by omega)
    have t1 := val_lt (hX.take n)
    rw [List.length_take, Nat.min_eq_left (by omega)] at t1
    rw [val_drop_eq X n (by omega), val_drop_eq X (n + 1) (by omega), val_drop_ge X (n + 1 + 1) (by omega), Nat.mul_zero, Nat.add_zero] at e1
    have e2 := val_take_drop V n (by omega)
    rw [val_drop_eq V n (by omega), val_drop_ge V (n + 1) (by omega), Nat.mul_zero, Nat.add_zero] at e2
    generalize hqq : (X.getD (n + 1) 0 * 4294967296 + X.getD n 0) / V.getD n 0 = q at *
    have hnat : (X.getD n 0).toNat + 4294967296 * (X.getD (n + 1) 0).toNat < (V.getD n 0).toNat * q.toNat + (V.getD n 0).toNat := by
      have : (((V.getD n 0).toNat * q.toNat : Nat) : Int) = V.getD n 0 * q := by rw [Int.natCast_mul, Int.toNat_of_nonneg hv.1, Int.toNat_of_nonneg hd0]
      omega
    generalize (X.getD n 0).toNat + 4294967296 * (X.getD (n + 1) 0).toNat = top at *
    generalize (V.getD n 0).toNat = v at *
    generalize q.toNat = Q at *
    have a1 : 4294967296 ^ n * (top + 1) ≤ 4294967296 ^ n * (v * Q + v) := Nat.mul_le_mul_left _ hnat
    have a2 : 4294967296 ^ n * v * (Q + 1) ≤ val V * (Q + 1) := Nat.mul_le_mul_right _ (by omega)
    have a3 : 4294967296 ^ n * (v * Q + v) = 4294967296 ^ n * v * (Q + 1) := by grind
    rw [Nat.mul_comm (Q + 1)]
    rw [Nat.mul_add, Nat.mul_one] at a1
    omega
/-- A window within a row. -/
theorem win_set (pre win post : List Int) (k : Nat) (x : Int) (h : k < win.length) : (pre ++ win ++ post).set (pre.length + k) x = pre ++ win.set k x ++ post := by
  rw [List.append_assoc, List.set_append_right _ _ (by omega), Nat.add_sub_cancel_left, List.set_append_left _ _ h, List.append_assoc]
theorem win_getD (pre win post : List Int) (k : Nat) (h : k < win.length) : (pre ++ win ++ post).getD (pre.length + k) 0 = win.getD k 0 := by
  rw [List.append_assoc, List.getD_eq_getElem?_getD, List.getD_eq_getElem?_getD, List.getElem?_append_right (by omega), Nat.add_sub_cancel_left, List.getElem?_append_left h]
end Go.Proofs.Ytkidgeeedigkhaa
