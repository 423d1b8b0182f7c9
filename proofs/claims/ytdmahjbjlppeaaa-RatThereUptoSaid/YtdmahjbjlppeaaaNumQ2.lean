
/- Rationals in lowest terms: floors, signs, magnitudes. -/
import Derived.Test.YtdmahjbjlppeaaaNumQ
namespace Go.Proofs.Ytdmahjbjlppeaaa

theorem fl_bounds {p q : Int} (hq : 0 < q) : fl p q * q ≤ p ∧ p < (fl p q + 1) * q := by
  have h := fl_md p q
  have hr := md_range (z := p) (u := q) (by omega)
  rw [Int.add_mul]
  omega
theorem fl_of {p q f : Int} (h1 : f * q ≤ p) (h2 : p < (f + 1) * q) : fl p q = f := by
  rw [Int.add_mul] at h2
  exact (fl_unique (z := p) (u := q) (q := f) (r := p - f * q) (by omega) (by omega)).1.symm
theorem fl_cross {p q n d : Int} (hq : 0 < q) (hd : 0 < d) (h : n * q = p * d) : fl n d = fl p q := by
  obtain ⟨h1, h2⟩ := fl_bounds (p := p) hq
  generalize fl p q = f at *
  apply fl_of
  · have h3 := Int.mul_le_mul_of_nonneg_right h1 (show 0 ≤ d by omega)
    have h4 : f * d * q ≤ n * q := by rw [h]; grind
    exact Int.le_of_mul_le_mul_right h4 hq
  · have h3 := Int.mul_lt_mul_of_pos_right h2 hd
    have h4 : n * q < (f + 1) * d * q := by rw [h]; grind
    exact Int.lt_of_mul_lt_mul_right h4 (by omega)
theorem fl_ratio {p q : Int} (hq : 0 < q) : fl (rn p q) (rd p q) = fl p q := by
  obtain ⟨h1, h2, _⟩ := r_spec p (q := q) (by omega)
  exact fl_cross hq h1 h2
theorem near_ratio {p q : Int} (hq : 0 < q) : fl (rn ((p * 2) + (1 * q)) (q * 2)) (rd ((p * 2) + (1 * q)) (q * 2)) = fl (p + p + q) (q + q) := by
  rw [fl_ratio (by omega)]
  congr 1 <;> omega
theorem abs_ratio {P Q : Int} (hQ : Q ≠ 0) : rn ((rn P Q).natAbs : Int) (rd P Q) = ((rn P Q).natAbs : Int) ∧ rd ((rn P Q).natAbs : Int) (rd P Q) = rd P Q := by
  obtain ⟨h1, _, h3⟩ := r_spec P hQ
  refine r_unique (by omega) h1 ?_ rfl
  unfold Int.gcd at h3 ⊢
  rw [Int.natAbs_natCast]
  exact h3
theorem sign_ratio {p q : Int} (hq : 0 < q) : (rn p q).sign = p.sign := by
  obtain ⟨h1, h2, _⟩ := r_spec p (q := q) (by omega)
  have := congrArg Int.sign h2
  rw [Int.sign_mul, Int.sign_mul, Int.sign_eq_one_of_pos hq, Int.sign_eq_one_of_pos h1, Int.mul_one, Int.mul_one] at this
  exact this
theorem abs_two {p q : Int} (d : decide (p.sign < 0) = true) : rn (-p) q = rn (p.natAbs : Int) q ∧ rd (-p) q = rd (p.natAbs : Int) q := by
  have h := q_sign.2.1.1 d
  rw [show (p.natAbs : Int) = -p by omega]
  exact ⟨rfl, rfl⟩
theorem abs_one {p q : Int} (d : decide (p.sign < 0) = false) : rn p q = rn (p.natAbs : Int) q ∧ rd p q = rd (p.natAbs : Int) q := by
  have h := q_sign.1.1 d
  rw [show (p.natAbs : Int) = p by omega]
  exact ⟨rfl, rfl⟩
theorem pos_of_sign {q : Int} (d : decide (q.sign ≤ 0) = false) : 0 < q := q_sign.2.2.1.1 d
theorem rd_pos {p q : Int} (hq : q ≠ 0) : 0 < rd p q := (r_spec p hq).1
theorem dv_of {q q1 : Int} (h : 0 < q) (h1 : 0 < q1) : (decide (q.sign ≤ 0) || decide (q1.sign ≤ 0)) = false := by rw [q_sign.2.2.1.2 h, q_sign.2.2.1.2 h1]; rfl
theorem dv_one {q : Int} (h : 0 < q) : decide (q.sign ≤ 0) = false := q_sign.2.2.1.2 h
theorem sgn_nz {z : Int} (h : z ≠ 0) : (z.sign == 0) = false := by
  cases e : (z.sign == 0) with
  | false => rfl
  | true => exact absurd (sign_eq_zero.1 e) h
theorem near_lenk {p q : Int} {N M K : Nat} (hp : (digs p.natAbs).length ≤ N) (hq : (digs q.natAbs).length ≤ M) (h1 : N + 3 ≤ K) (h2 : M + 3 ≤ K) : (digs (fl (p + p + q) (q + q)).natAbs).length ≤ K := by
  have h3 : (digs (p + p).natAbs).length ≤ N + 1 := len_add hp hp
  have h4 : (digs (p + p + q).natAbs).length ≤ K - 1 := Nat.le_trans (len_add (k := K - 2) (by omega) (by omega)) (by omega)
  exact Nat.le_trans (fl_len h4) (by omega)
/-- Both may be, or one may not. -/
theorem both_ways (q q1 : Int) : (0 < q ∧ 0 < q1 ∧ (decide (0 < q.sign) && decide (0 < q1.sign)) = true) ∨ ((decide (0 < q.sign) && decide (0 < q1.sign)) = false ∧ (decide (q.sign ≤ 0) || decide (q1.sign ≤ 0)) = true) := by
  have key : ∀ z : Int, (0 < z ∧ decide (0 < z.sign) = true ∧ decide (z.sign ≤ 0) = false) ∨ (decide (0 < z.sign) = false ∧ decide (z.sign ≤ 0) = true) := fun z => by
    rcases Int.lt_trichotomy z 0 with h | h | h
    · rw [Int.sign_eq_neg_one_of_neg h]; exact .inr ⟨by decide, by decide⟩
    · rw [h]; exact .inr ⟨by decide, by decide⟩
    · rw [Int.sign_eq_one_of_pos h]; exact .inl ⟨h, by decide, by decide⟩
  rcases key q with ⟨a, b, c⟩ | ⟨b, c⟩
  · rcases key q1 with ⟨d, e, f⟩ | ⟨e, f⟩
    · exact .inl ⟨a, d, by rw [b, e]; rfl⟩
    · exact .inr ⟨by rw [b, e]; rfl, by rw [c, f]; rfl⟩
  · exact .inr ⟨by rw [b]; rfl, by rw [c]; rfl⟩
theorem one_ways (q : Int) : (0 < q ∧ decide (0 < q.sign) = true) ∨ (decide (0 < q.sign) = false ∧ decide (q.sign ≤ 0) = true) := by
  rcases Int.lt_trichotomy q 0 with h | h | h
  · rw [Int.sign_eq_neg_one_of_neg h]; exact .inr ⟨by decide, by decide⟩
  · rw [h]; exact .inr ⟨by decide, by decide⟩
  · rw [Int.sign_eq_one_of_pos h]; exact .inl ⟨h, by decide⟩
end Go.Proofs.Ytdmahjbjlppeaaa
