/- How many binary digits; differences, products, quotients by one limb and shifts, limb by limb. -/
import Derived.Test.YtkidgeeedigkhaaNum
import Derived.Lib.BitFns
namespace Go.Proofs.Ytkidgeeedigkhaa

def blen (n : Nat) : Nat := if n = 0 then 0 else n.log2 + 1
theorem blen_zero : blen 0 = 0 := rfl
theorem blen_unique {n m : Nat} (h1 : 2 ^ m ≤ n) (h2 : n < 2 ^ (m + 1)) : blen n = m + 1 := by
  have h0 : n ≠ 0 := by have := Nat.pow_pos (n := m) (show 0 < 2 by omega); omega
  unfold blen
  rw [if_neg h0]
  have a1 := (Nat.le_log2 h0).2 h1
  have a2 := (Nat.log2_lt h0).2 h2
  omega
theorem blen_lt (n : Nat) : n < 2 ^ blen n := by
  unfold blen
  split
  · subst_vars; simp
  · exact Nat.lt_log2_self
theorem blen_le {n : Nat} (h : 0 < n) : 2 ^ (blen n - 1) ≤ n := by
  unfold blen
  rw [if_neg (by omega), Nat.add_sub_cancel]
  exact Nat.log2_self_le (by omega)
theorem blen_pos {n : Nat} (h : 0 < n) : 0 < blen n := by unfold blen; rw [if_neg (by omega)]; omega
theorem blen_eq_zero {n : Nat} : blen n = 0 ↔ n = 0 := by
  constructor
  · intro h; rcases Nat.eq_zero_or_pos n with h0 | h0
    · exact h0
    · have := blen_pos h0; omega
  · rintro rfl; rfl
theorem blen_le_iff {n k : Nat} : blen n ≤ k ↔ n < 2 ^ k := by
  constructor
  · intro h; exact Nat.lt_of_lt_of_le (blen_lt n) (Nat.pow_le_pow_right (by omega) h)
  · intro h
    rcases Nat.eq_zero_or_pos n with h0 | h0
    · subst h0; rw [blen_zero]; omega
    · have h1 := blen_le h0
      rcases Nat.lt_or_ge k (blen n) with h2 | h2
      · have := Nat.pow_le_pow_right (show 0 < 2 by omega) (show k ≤ blen n - 1 by omega)
        omega
      · exact h2
theorem blen_add_pow {t x k : Nat} (ht : t < 2 ^ k) (hx : 0 < x) : blen (t + 2 ^ k * x) = k + blen x := by
  have h1 := blen_le hx
  have h2 := blen_lt x
  have h3 := blen_pos hx
  obtain ⟨m, hm⟩ : ∃ m, blen x = m + 1 := ⟨blen x - 1, by omega⟩
  rw [hm] at h1 h2
  rw [Nat.add_sub_cancel] at h1
  rw [hm, ← Nat.add_assoc]
  refine blen_unique ?_ ?_
  · rw [Nat.pow_add]
    exact Nat.le_trans (Nat.mul_le_mul_left _ h1) (by omega)
  · rw [Nat.add_assoc, Nat.pow_add]
    have : 2 ^ k * (x + 1) ≤ 2 ^ k * 2 ^ (m + 1) := Nat.mul_le_mul_left _ h2
    rw [Nat.mul_add, Nat.mul_one] at this
    omega
theorem pow_B (k : Nat) : 4294967296 ^ k = 2 ^ (32 * k) := by
  rw [Nat.pow_mul]
theorem blen_half {x : Nat} (h : x ≠ 0) : blen x = 1 + blen (x / 2) := by
  rcases Nat.eq_zero_or_pos (x / 2) with h2 | h2
  · have : x = 1 := by omega
    subst this
    rfl
  · have := blen_add_pow (t := x % 2) (x := x / 2) (k := 1) (by omega) h2
    rw [Nat.pow_one, Nat.mod_add_div] at this
    exact this
theorem bitLen_blen (x : Nat) (h : x < 2 ^ 64) : Lib.bitLen x = blen x := by
  induction x using Nat.strongRecOn with
  | ind x ih =>
    rcases Nat.eq_zero_or_pos x with h0 | h0
    · subst h0; rfl
    · rw [Lib.bitLen_half x (by omega) h, blen_half (by omega), ih (x / 2) (by omega) (by omega)]
theorem blen_top {l : List Int} (hl : Lim l) {n : Nat} (hn : l.length = n + 1) (ht : l.getD n 0 ≠ 0) : blen (val l) = 32 * n + blen (l.getD n 0).toNat := by
  have e := val_take_drop l n (by omega)
  have d := val_drop_eq l n (by omega)
  rw [val_drop_ge l (n + 1) (by omega)] at d
  have t := val_lt (hl.take n)
  rw [List.length_take, Nat.min_eq_left (by omega), pow_B] at t
  have hx := hl.getD n
  rw [e, d, Nat.mul_zero, Nat.add_zero, pow_B]
  exact blen_add_pow t (by omega)
theorem top_ne_zero {N n : Nat} (hn : (digs N).length = n + 1) : (digs N).getD n 0 ≠ 0 := by
  have hc := digs_canon N
  have : (digs N).getLast? = some ((digs N).getD n 0) := by
    rw [List.getLast?_eq_getElem?, hn, Nat.add_sub_cancel, List.getD_eq_getElem?_getD, List.getElem?_eq_getElem (by omega)]
    rfl
  exact hc _ this

/-- After k rounds: the sum's lower limbs and the carry. -/
structure AddInv (X Y o : List Int) (k : Nat) (c : Int) : Prop where
  c0 : 0 ≤ c
  c1 : c ≤ 1
  eq : val (o.take k) + 4294967296 ^ k * c.toNat = val (X.take k) + val (Y.take k)
theorem AddInv.step {X Y o : List Int} {k : Nat} {c : Int} (h : AddInv X Y o k c) (hX : Lim X) (hY : Lim Y) (hk : k < o.length) :
    AddInv X Y (o.set k ((c + X.getD k 0 + Y.getD k 0) % 4294967296)) (k + 1) ((c + X.getD k 0 + Y.getD k 0) / 4294967296) := by
  have hx := hX.getD k
  have hy := hY.getD k
  have h0 := h.c0
  have h1 := h.c1
  refine ⟨by omega, by omega, ?_⟩
  rw [val_set_take _ _ _ hk, val_take_succ' X, val_take_succ' Y, Nat.pow_succ]
  have e := h.eq
  generalize X.getD k 0 = x at *
  generalize Y.getD k 0 = y at *
  have hs : ((c + x + y) % 4294967296).toNat + 4294967296 * ((c + x + y) / 4294967296).toNat = c.toNat + x.toNat + y.toNat := by omega
  generalize ((c + x + y) % 4294967296).toNat = p at *
  generalize ((c + x + y) / 4294967296).toNat = q at *
  generalize 4294967296 ^ k = B at *
  have : B * (p + 4294967296 * q) = B * (c.toNat + x.toNat + y.toNat) := by rw [hs]
  grind
theorem AddInv.last {X Y o : List Int} {n : Nat} {c : Int} (h : AddInv X Y o n c) (ho : o.length = n + 1) (hX : X.length = n) (hY : Y.length ≤ n) : val (o.set n c) = val X + val Y := by
  have e := h.eq
  have := val_set_take o n c (by omega)
  rw [List.take_of_length_le (by simp; omega)] at this
  rw [List.take_of_length_le (l := X) (by omega), List.take_of_length_le (l := Y) hY] at e
  omega

/-- After k rounds of a difference. -/
structure LessInv (X Y o : List Int) (k : Nat) (b : Int) : Prop where
  b0 : 0 ≤ b
  b1 : b ≤ 1
  eq : val (X.take k) + 4294967296 ^ k * b.toNat = val (o.take k) + val (Y.take k)
theorem LessInv.step {X Y o : List Int} {k : Nat} {b : Int} (h : LessInv X Y o k b) (hX : Lim X) (hY : Lim Y) (hk : k < o.length) :
    LessInv X Y (o.set k ((X.getD k 0 - b - Y.getD k 0) % 4294967296)) (k + 1) (if X.getD k 0 - b - Y.getD k 0 < 0 then 1 else 0) := by
  have hx := hX.getD k
  have hy := hY.getD k
  have h0 := h.b0
  have h1 := h.b1
  refine ⟨by split <;> omega, by split <;> omega, ?_⟩
  rw [val_set_take _ _ _ hk, val_take_succ' X, val_take_succ' Y, Nat.pow_succ]
  have e := h.eq
  generalize X.getD k 0 = x at *
  generalize Y.getD k 0 = y at *
  have hs : x.toNat + 4294967296 * (if x - b - y < 0 then (1 : Int) else 0).toNat = ((x - b - y) % 4294967296).toNat + b.toNat + y.toNat := by split <;> omega
  generalize ((x - b - y) % 4294967296).toNat = p at *
  generalize (if x - b - y < 0 then (1 : Int) else 0).toNat = q at *
  generalize 4294967296 ^ k = B at *
  have : B * (x.toNat + 4294967296 * q) = B * (p + b.toNat + y.toNat) := by rw [hs]
  grind
theorem LessInv.last {X Y o : List Int} {n : Nat} {b : Int} (h : LessInv X Y o n b) (ho : o.length = n) (hX : X.length = n) (hY : Y.length ≤ n) (hlo : Lim o) (hle : val Y ≤ val X) : val o = val X - val Y := by
  have e := h.eq
  rw [List.take_of_length_le (l := X) (by omega), List.take_of_length_le (l := Y) hY, List.take_of_length_le (l := o) (by omega)] at e
  have h2 := val_lt hlo
  rw [ho] at h2
  have h0 := h.b0
  have h1 := h.b1
  rcases Nat.eq_zero_or_pos b.toNat with hb | hb
  · rw [hb] at e; omega
  · have : b.toNat = 1 := by omega
    rw [this] at e; omega

theorem val_set {l : List Int} {k : Nat} {x : Int} (h : k < l.length) : val (l.set k x) + 4294967296 ^ k * (l.getD k 0).toNat = val l + 4294967296 ^ k * x.toNat := by
  have e1 := val_take_drop l k (by omega)
  have e2 := val_take_drop (l.set k x) k (by simp; omega)
  rw [val_drop_eq _ _ h] at e1
  rw [val_drop_eq _ _ (by simpa using h), getD_set_same _ _ _ h, List.take_set_of_le (Nat.le_refl _), List.drop_set_of_lt (by omega)] at e2
  rw [Nat.mul_add] at e1 e2
  omega
theorem mul_lim {x y : Int} (hx : 0 ≤ x ∧ x < 4294967296) (hy : 0 ≤ y ∧ y < 4294967296) : 0 ≤ x * y ∧ x * y ≤ 18446744065119617025 := by
  have h1 := Int.mul_nonneg hx.1 hy.1
  have h2 : x * y ≤ 4294967295 * 4294967295 := Int.mul_le_mul (by omega) (by omega) hy.1 (by omega)
  omega
/-- A product after j rounds within round i. -/
structure MulInv (X Y o : List Int) (i j : Nat) (c : Int) : Prop where
  c0 : 0 ≤ c
  c1 : c < 4294967296
  eq : val (o.take (i + Y.length)) + 4294967296 ^ (i + j) * c.toNat = val (X.take i) * val Y + 4294967296 ^ i * ((X.getD i 0).toNat * val (Y.take j))
theorem MulInv.start {X Y o : List Int} {i : Nat} (h : val (o.take (i + Y.length)) = val (X.take i) * val Y) : MulInv X Y o i 0 0 := ⟨by omega, by omega, by simp [h, val]⟩
theorem MulInv.step {X Y o : List Int} {i j : Nat} {c : Int} (h : MulInv X Y o i j c) (hX : Lim X) (hY : Lim Y) (ho : Lim o) (hj : j < Y.length) (hk : i + Y.length ≤ o.length) :
    MulInv X Y (o.set (i + j) ((c + (X.getD i 0 * Y.getD j 0 + o.getD (i + j) 0)) % 4294967296)) i (j + 1) ((c + (X.getD i 0 * Y.getD j 0 + o.getD (i + j) 0)) / 4294967296) := by
  have hx := hX.getD i
  have hy := hY.getD j
  have hok := ho.getD (i + j)
  have hp := mul_lim hx hy
  have h0 := h.c0
  have h1 := h.c1
  refine ⟨by omega, by omega, ?_⟩
  have e := h.eq
  have hs := val_set (l := o.take (i + Y.length)) (k := i + j) (x := (c + (X.getD i 0 * Y.getD j 0 + o.getD (i + j) 0)) % 4294967296) (by simp; omega)
  rw [← List.take_set, show (o.take (i + Y.length)).getD (i + j) 0 = o.getD (i + j) 0 by rw [List.getD_eq_getElem?_getD, List.getD_eq_getElem?_getD, List.getElem?_take, if_pos (by omega)]] at hs
  rw [val_take_succ' Y, show i + (j + 1) = (i + j) + 1 by omega, Nat.pow_succ]
  have hm : (X.getD i 0 * Y.getD j 0).toNat = (X.getD i 0).toNat * (Y.getD j 0).toNat := Int.toNat_mul hx.1 hy.1
  generalize hP : X.getD i 0 * Y.getD j 0 = p at *
  generalize (X.getD i 0).toNat = x at *
  generalize (Y.getD j 0).toNat = y at *
  generalize o.getD (i + j) 0 = q at *
  have hq : ((c + (p + q)) % 4294967296).toNat + 4294967296 * ((c + (p + q)) / 4294967296).toNat = c.toNat + x * y + q.toNat := by omega
  generalize ((c + (p + q)) % 4294967296).toNat = r at *
  generalize ((c + (p + q)) / 4294967296).toNat = t at *
  have h3 : 4294967296 ^ (i + j) * (r + 4294967296 * t) = 4294967296 ^ (i + j) * (c.toNat + x * y + q.toNat) := by rw [hq]
  have h4 : 4294967296 ^ (i + j) = 4294967296 ^ i * 4294967296 ^ j := Nat.pow_add ..
  grind
theorem MulInv.last {X Y o : List Int} {i : Nat} {c : Int} (h : MulInv X Y o i Y.length c) (hk : i + Y.length < o.length) : val ((o.set (i + Y.length) c).take (i + 1 + Y.length)) = val (X.take (i + 1)) * val Y := by
  have e := h.eq
  rw [show i + 1 + Y.length = i + Y.length + 1 by omega, val_set_take _ _ _ hk, val_take_succ' X, e, List.take_length, Nat.add_mul, Nat.mul_assoc]

/-- A quotient by one limb, down to place i. -/
structure ShortInv (X o : List Int) (d : Int) (i : Nat) (r : Int) : Prop where
  r0 : 0 ≤ r
  r1 : r < d
  eq : val (X.drop i) = d.toNat * val (o.drop i) + r.toNat
theorem val_drop_set {o : List Int} {i : Nat} {x : Int} (h : i < o.length) : val ((o.set i x).drop i) = x.toNat + 4294967296 * val (o.drop (i + 1)) := by
  rw [val_drop_eq _ _ (by simpa using h), getD_set_same _ _ _ h, List.drop_set_of_lt (by omega)]
theorem div_lt_B {r x d : Int} (h0 : 0 ≤ r) (h1 : r < d) (hx : 0 ≤ x ∧ x < 4294967296) : 0 ≤ (r * 4294967296 + x) / d ∧ (r * 4294967296 + x) / d < 4294967296 := by
  refine ⟨Int.ediv_nonneg (by omega) (by omega), Int.ediv_lt_of_lt_mul (by omega) ?_⟩
  have : (r + 1) * 4294967296 ≤ d * 4294967296 := Int.mul_le_mul_of_nonneg_right (by omega) (by omega)
  omega
theorem ShortInv.step {X o : List Int} {d : Int} {i : Nat} {r : Int} (h : ShortInv X o d (i + 1) r) (hX : Lim X) (hi : i < o.length) (hiX : i < X.length) :
    ShortInv X (o.set i ((r * 4294967296 + X.getD i 0) / d)) d i ((r * 4294967296 + X.getD i 0) % d) := by
  have hx := hX.getD i
  have h0 := h.r0
  have h1 := h.r1
  have hq := div_lt_B h0 h1 hx
  refine ⟨Int.emod_nonneg _ (by omega), Int.emod_lt_of_pos _ (by omega), ?_⟩
  rw [val_drop_set hi, val_drop_eq _ _ hiX, h.eq]
  have e := Int.mul_ediv_add_emod (r * 4294967296 + X.getD i 0) d
  have hm0 := Int.emod_nonneg (r * 4294967296 + X.getD i 0) (show d ≠ 0 by omega)
  generalize X.getD i 0 = x at *
  generalize (r * 4294967296 + x) / d = q at *
  generalize (r * 4294967296 + x) % d = m at *
  generalize val (List.drop (i + 1) o) = V at *
  have e2 : d.toNat * q.toNat + m.toNat = r.toNat * 4294967296 + x.toNat := by
    have hP : ((d.toNat * q.toNat : Nat) : Int) = d * q := by rw [Int.natCast_mul, Int.toNat_of_nonneg (by omega), Int.toNat_of_nonneg hq.1]
    generalize d.toNat * q.toNat = P at *
    generalize d * q = Q at *
    omega
  grind
theorem ShortInv.start {X o : List Int} {d : Int} (hd : 0 < d) (hl : X.length = o.length) : ShortInv X o d X.length 0 := ⟨by omega, hd, by rw [val_drop_ge _ _ (Nat.le_refl _), val_drop_ge _ _ (by omega)]; rfl⟩
theorem ShortInv.last {X o : List Int} {d r : Int} (h : ShortInv X o d 0 r) : val o = val X / d.toNat ∧ r = ((val X % d.toNat : Nat) : Int) := by
  have e := h.eq
  have h0 := h.r0
  have h1 := h.r1
  simp only [List.drop_zero] at e
  rw [e, Nat.mul_add_div (by omega), Nat.div_eq_of_lt (by omega), Nat.mul_add_mod, Nat.mod_eq_of_lt (by omega)]
  omega
end Go.Proofs.Ytkidgeeedigkhaa
