
/- What the law ZintRests says of numbers. -/
import Derived.Test.YtdmahjbjlppeaaaNumB
namespace Go.Proofs.Ytdmahjbjlppeaaa

theorem bez_steps {a b : Int} : ∀ (n : Nat) (r s x u : Int), s.natAbs = n → BInv a b r s x u → ∃ r' x' u', BInv a b r' 0 x' u' := by
  intro n
  induction n using Nat.strongRecOn with
  | _ n ih =>
    intro r s x u hn h
    by_cases hs : s = 0
    · subst hs
      exact ⟨r, x, u, h⟩
    · exact ih (md r s).natAbs (by rw [← hn]; exact md_lt hs) _ _ _ _ rfl (h.step hs)
theorem bezX_spec {a b : Int} (hb : b ≠ 0) : 0 ≤ bezX a b ∧ bezX a b * (Int.gcd a b : Int) < (b.natAbs : Int) ∧ b ∣ bezX a b * a - (Int.gcd a b : Int) := by
  obtain ⟨r, x, u, h⟩ := bez_steps _ a b 1 0 rfl (BInv.start hb)
  obtain ⟨hr0, hrg⟩ := h.last hb
  obtain ⟨r', x', hr, hg, hx⟩ : ∃ r' x' : Int, 0 < r' ∧ r'.natAbs = Int.gcd a b ∧ b ∣ x' * a - r' := by
    rcases Int.lt_trichotomy r 0 with h0 | h0 | h0
    · exact ⟨-r, -x, by omega, by rw [Int.natAbs_neg]; exact hrg, dvd_other h.px⟩
    · exact absurd h0 hr0
    · exact ⟨r, x, h0, hrg, h.px⟩
  obtain ⟨e1, hst, e2⟩ := bez_fin hb hr hg hx
  have hfl : fl (b.natAbs : Int) r' = ((b.natAbs / Int.gcd a b : Nat) : Int) := by
    unfold fl
    rw [if_neg (by omega), e1]
    rfl
  have hgb : Int.gcd a b ∣ b.natAbs := by unfold Int.gcd; exact Nat.gcd_dvd_right _ _
  have hrng := md_range (z := x') hst
  rw [e2, hfl] at hrng
  have h0 : 0 ≤ bezX a b := by
    generalize b.natAbs / Int.gcd a b = n at *
    omega
  have h1 : bezX a b < ((b.natAbs / Int.gcd a b : Nat) : Int) := by
    generalize b.natAbs / Int.gcd a b = n at *
    omega
  refine ⟨h0, ?_, ?_⟩
  · have h2 : (bezX a b).toNat + 1 ≤ b.natAbs / Int.gcd a b := by
      generalize b.natAbs / Int.gcd a b = n at *
      omega
    have h3 := (Nat.le_div_iff_mul_le (by omega)).1 h2
    rw [Nat.add_mul] at h3
    have h4 : ((bezX a b).toNat : Int) = bezX a b := Int.toNat_of_nonneg h0
    rw [← h4]
    have h5 : (((bezX a b).toNat * Int.gcd a b : Nat) : Int) = ((bezX a b).toNat : Int) * (Int.gcd a b : Int) := Int.natCast_mul _ _
    omega
  · have hfm := fl_md x' (fl (b.natAbs : Int) r')
    rw [e2, hfl] at hfm
    have hsd : b ∣ ((b.natAbs / Int.gcd a b : Nat) : Int) * a := by
      have hga : Int.gcd a b ∣ a.natAbs := by unfold Int.gcd; exact Nat.gcd_dvd_left _ _
      obtain ⟨a', ha'⟩ := hga
      obtain ⟨b', hb'⟩ := hgb
      have e1 : b.natAbs / Int.gcd a b = b' := by rw [hb']; exact Nat.mul_div_cancel_left _ (by omega)
      rw [e1]
      refine Int.natAbs_dvd_natAbs.1 ?_
      rw [Int.natAbs_mul, Int.natAbs_natCast, hb', ha', ← Nat.mul_assoc, Nat.mul_comm b' (Int.gcd a b)]
      exact Nat.dvd_mul_right _ _
    generalize fl x' ((b.natAbs / Int.gcd a b : Nat) : Int) = q at *
    have e : bezX a b * a - (Int.gcd a b : Int) = (x' * a - r') - q * (((b.natAbs / Int.gcd a b : Nat) : Int) * a) := by
      have h6 : x' * a = q * (((b.natAbs / Int.gcd a b : Nat) : Int) * a) + bezX a b * a := by
        conv => lhs; rw [hfm, Int.add_mul, Int.mul_assoc]
      omega
    rw [e]
    exact Int.dvd_sub hx (Int.dvd_mul_of_dvd_right hsd)
theorem fl_exact {z u : Int} (hu : u ≠ 0) (h : u ∣ z) : fl z u * u = z ∧ md z u = 0 := by
  obtain ⟨k, hk⟩ := h
  have := fl_unique (z := z) (u := u) (q := k) (r := 0) (by rw [hk, Int.mul_comm]; omega) (by omega)
  rw [← this.1]
  exact ⟨by rw [hk, Int.mul_comm], this.2.symm⟩
theorem bez_eq {a b : Int} (hb : b ≠ 0) : bezX a b * a + fl ((Int.gcd a b : Int) - bezX a b * a) b * b = (Int.gcd a b : Int) := by
  obtain ⟨_, _, h⟩ := bezX_spec (a := a) hb
  have h2 : b ∣ (Int.gcd a b : Int) - bezX a b * a := by
    have e : (Int.gcd a b : Int) - bezX a b * a = -(bezX a b * a - (Int.gcd a b : Int)) := by omega
    rw [e]
    exact Int.dvd_neg.2 h
  rw [(fl_exact hb h2).1]
  omega
theorem gcd_pos {a b : Int} (hb : b ≠ 0) : 0 < (Int.gcd a b : Int) := by
  have : Int.gcd a b ≠ 0 := fun e => hb (Int.gcd_eq_zero_iff.1 e).2
  omega
theorem md_gcd_l {a b : Int} (hb : b ≠ 0) : md a (Int.gcd a b : Int) = 0 := (fl_exact (by have := gcd_pos (a := a) hb; omega) (Int.gcd_dvd_left ..)).2
theorem md_gcd_r {a b : Int} (hb : b ≠ 0) : md b (Int.gcd a b : Int) = 0 := (fl_exact (by have := gcd_pos (a := a) hb; omega) (Int.gcd_dvd_right ..)).2
theorem near_off {a b : Int} (hb : b ≠ 0) : 2 * ((fl (a + a + b) (b + b) * b - a).natAbs : Int) ≤ (b.natAbs : Int) := by
  have h := fl_md (a + a + b) (b + b)
  have hr := md_range (z := a + a + b) (u := b + b) (by omega)
  generalize md (a + a + b) (b + b) = t at *
  generalize fl (a + a + b) (b + b) = n at *
  rw [Int.mul_add] at h
  generalize n * b = k at *
  omega
/-- The three ways of Compare. -/
theorem cmp_ways {z u : Int} : decide (z.sign < u.sign) = true ∧ (z - u).sign = -1 ∨ decide (z.sign < u.sign) = false ∧ decide (u.sign < z.sign) = true ∧ (z - u).sign = 1 ∨
    decide (z.sign < u.sign) = false ∧ decide (u.sign < z.sign) = false ∧ (z - u).sign = z.sign * cmpN z.natAbs u.natAbs := by
  have key : ∀ p q : Nat, (0 < p → 0 < q → ((p : Int) - q).sign = cmpN p q) := fun p q _ _ => by
    unfold cmpN
    split
    · exact Int.sign_eq_neg_one_of_neg (by omega)
    · split
      · rw [show (p : Int) - q = 0 by omega]; rfl
      · exact Int.sign_eq_one_of_pos (by omega)
  rcases Int.lt_trichotomy z 0 with h | h | h <;> rcases Int.lt_trichotomy u 0 with k | k | k
  · right; right
    rw [Int.sign_eq_neg_one_of_neg h, Int.sign_eq_neg_one_of_neg k]
    refine ⟨by decide, by decide, ?_⟩
    rw [show z - u = -((z.natAbs : Int) - (u.natAbs : Int)) by omega, Int.sign_neg, key _ _ (by omega) (by omega)]
    omega
  · left; rw [Int.sign_eq_neg_one_of_neg h, k]; exact ⟨by decide, Int.sign_eq_neg_one_of_neg (by omega)⟩
  · left; rw [Int.sign_eq_neg_one_of_neg h, Int.sign_eq_one_of_pos k]; exact ⟨by decide, Int.sign_eq_neg_one_of_neg (by omega)⟩
  · right; left; rw [h, Int.sign_eq_neg_one_of_neg k]; exact ⟨by decide, by decide, Int.sign_eq_one_of_pos (by omega)⟩
  · right; right; rw [h, k]; exact ⟨by decide, by decide, by decide⟩
  · left; rw [h, Int.sign_eq_one_of_pos k]; exact ⟨by decide, Int.sign_eq_neg_one_of_neg (by omega)⟩
  · right; left; rw [Int.sign_eq_one_of_pos h, Int.sign_eq_neg_one_of_neg k]; exact ⟨by decide, by decide, Int.sign_eq_one_of_pos (by omega)⟩
  · right; left; rw [Int.sign_eq_one_of_pos h, k]; exact ⟨by decide, by decide, Int.sign_eq_one_of_pos (by omega)⟩
  · right; right
    rw [Int.sign_eq_one_of_pos h, Int.sign_eq_one_of_pos k]
    refine ⟨by decide, by decide, ?_⟩
    rw [Int.one_mul, ← key z.natAbs u.natAbs (by omega) (by omega)]
    congr 1
    omega
end Go.Proofs.Ytdmahjbjlppeaaa
