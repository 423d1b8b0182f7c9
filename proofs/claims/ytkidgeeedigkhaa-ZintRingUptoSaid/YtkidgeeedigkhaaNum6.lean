/- Roots. -/
import Derived.Test.YtkidgeeedigkhaaNum5
namespace Go.Proofs.Ytkidgeeedigkhaa

/-- The greatest number whose square is not above a. -/
def rootN (a : Nat) : Nat := if h : a = 0 then 0 else
  if (2 * rootN (a / 4) + 1) * (2 * rootN (a / 4) + 1) ≤ a then 2 * rootN (a / 4) + 1 else 2 * rootN (a / 4)
termination_by a
decreasing_by all_goals omega
theorem rootN_spec (a : Nat) : rootN a * rootN a ≤ a ∧ a < (rootN a + 1) * (rootN a + 1) := by
  induction a using Nat.strongRecOn with
  | ind a ih =>
    by_cases h : a = 0
    · subst h; rw [rootN]; simp
    · have hi := ih (a / 4) (by omega)
      rw [rootN, dif_neg h]
      generalize rootN (a / 4) = r at *
      obtain ⟨h1, h2⟩ := hi
      have e1 : 2 * r * (2 * r) = 4 * (r * r) := by grind
      have e2 : (2 * r + 1) * (2 * r + 1) = 4 * (r * r) + 4 * r + 1 := by grind
      have e3 : (2 * r + 1 + 1) * (2 * r + 1 + 1) = 4 * ((r + 1) * (r + 1)) := by grind
      split
      · exact ⟨by assumption, by omega⟩
      · exact ⟨by omega, by omega⟩
theorem rootN_unique {a r : Nat} (h1 : r * r ≤ a) (h2 : a < (r + 1) * (r + 1)) : r = rootN a := by
  obtain ⟨g1, g2⟩ := rootN_spec a
  rcases Nat.lt_trichotomy r (rootN a) with h | h | h
  · have : (r + 1) * (r + 1) ≤ rootN a * rootN a := Nat.mul_le_mul h h
    omega
  · exact h
  · have : (rootN a + 1) * (rootN a + 1) ≤ r * r := Nat.mul_le_mul h h
    omega
theorem rootN_ge {a x : Nat} (h : x * x ≤ a) : x ≤ rootN a := by
  obtain ⟨_, g2⟩ := rootN_spec a
  rcases Nat.lt_or_ge (rootN a) x with h1 | h1
  · have : (rootN a + 1) * (rootN a + 1) ≤ x * x := Nat.mul_le_mul h1 h1
    omega
  · exact h1
theorem rootN_lt {a x : Nat} (h : a < x * x) : rootN a < x := by
  obtain ⟨g1, _⟩ := rootN_spec a
  rcases Nat.lt_or_ge (rootN a) x with h1 | h1
  · exact h1
  · have : x * x ≤ rootN a * rootN a := Nat.mul_le_mul h1 h1
    omega
theorem rootN_pos {a : Nat} (h : 0 < a) : 0 < rootN a := rootN_ge (x := 1) (by omega)
theorem rootN_le (a : Nat) : rootN a ≤ a := by
  obtain ⟨g1, _⟩ := rootN_spec a
  rcases Nat.eq_zero_or_pos (rootN a) with h | h
  · omega
  · have : rootN a * 1 ≤ rootN a * rootN a := Nat.mul_le_mul_left _ h
    omega
/-- Newton's step never falls below the root; where it does not fall, it is there. -/
theorem newton_ge {a x : Nat} (hx : 0 < x) : rootN a ≤ (x + a / x) / 2 := by
  obtain ⟨g1, _⟩ := rootN_spec a
  generalize rootN a = r at *
  rcases Nat.lt_or_ge ((x + a / x) / 2) r with h | h
  · have hd := Nat.lt_mul_div_succ a hx
    have h1 : x + (a / x + 1) ≤ 2 * r := by omega
    generalize a / x + 1 = d at *
    have h2 : x * d < r * r + 1 := by
      rcases Nat.le_total x d with hh | hh
      · obtain ⟨k, rfl⟩ := Nat.exists_eq_add_of_le hh
        obtain ⟨m, hm⟩ := Nat.exists_eq_add_of_le h1
        have : 4 * (x * (x + k)) ≤ (2 * r) * (2 * r) := by
          rw [hm]
          have : (x + (x + k) + m) * (x + (x + k) + m) = 4 * (x * (x + k)) + k * k + (2 * (2 * x + k) * m + m * m) := by grind
          omega
        have : (2 * r) * (2 * r) = 4 * (r * r) := by grind
        omega
      · obtain ⟨k, rfl⟩ := Nat.exists_eq_add_of_le hh
        obtain ⟨m, hm⟩ := Nat.exists_eq_add_of_le h1
        have : 4 * ((d + k) * d) ≤ (2 * r) * (2 * r) := by
          rw [hm]
          have : (d + k + d + m) * (d + k + d + m) = 4 * ((d + k) * d) + k * k + (2 * (2 * d + k) * m + m * m) := by grind
          omega
        have : (2 * r) * (2 * r) = 4 * (r * r) := by grind
        omega
    omega
  · exact h
theorem newton_end {a x : Nat} (hx : 0 < x) (hr : rootN a ≤ x) (h : x ≤ (x + a / x) / 2) : x = rootN a := by
  have h1 : x ≤ a / x := by omega
  have h2 : x * x ≤ a := (Nat.le_div_iff_mul_le hx).1 h1
  have := rootN_ge h2
  omega
theorem root_start (a : Nat) : rootN a < 2 ^ ((blen a + 1) / 2) := by
  apply rootN_lt
  rw [← Nat.pow_add]
  exact Nat.lt_of_lt_of_le (blen_lt a) (Nat.pow_le_pow_right (by omega) (by omega))
theorem digs_one : digs 1 = [1] := by rw [digs_pos (by omega), digs_zero]; rfl
end Go.Proofs.Ytkidgeeedigkhaa
