
/- Rationals in lowest terms. -/
import Derived.Test.YtdmahjbjlppeaaaNumB
namespace Go.Proofs.Ytdmahjbjlppeaaa

/-- The numerator and the denominator of p by q in lowest terms. -/
def rn (p q : Int) : Int := if q < 0 then fl (-p) (Int.gcd p q : Int) else fl p (Int.gcd p q : Int)
def rd (p q : Int) : Int := fl (q.natAbs : Int) (Int.gcd p q : Int)
theorem gcd_posq {p q : Int} (hq : q ≠ 0) : 0 < (Int.gcd p q : Int) := by
  have : Int.gcd p q ≠ 0 := fun e => hq (Int.gcd_eq_zero_iff.1 e).2
  omega
theorem fl_mul {g k : Int} (hg : g ≠ 0) : fl (g * k) g = k := by
  have := fl_unique (z := g * k) (u := g) (q := k) (r := 0) (by rw [Int.mul_comm]; omega) (by omega)
  exact this.1.symm
theorem md_mul {g k : Int} (hg : g ≠ 0) : md (g * k) g = 0 := by
  have := fl_unique (z := g * k) (u := g) (q := k) (r := 0) (by rw [Int.mul_comm]; omega) (by omega)
  exact this.2.symm
theorem r_parts (p : Int) {q : Int} (hq : q ≠ 0) : ∃ g p' q' : Int, 0 < g ∧ g = (Int.gcd p q : Int) ∧ p = g * p' ∧ q = g * q' ∧ q' ≠ 0 ∧ Int.gcd p' q' = 1 ∧
    rn p q = (if q < 0 then -p' else p') ∧ rd p q = (q'.natAbs : Int) := by
  have hg := gcd_posq (p := p) hq
  obtain ⟨p', hp⟩ := Int.gcd_dvd_left (a := p) (b := q)
  obtain ⟨q', hq'⟩ := Int.gcd_dvd_right (a := p) (b := q)
  refine ⟨_, p', q', hg, rfl, hp, hq', fun e => ?_, ?_, ?_, ?_⟩
  · rw [e, Int.mul_zero] at hq'; exact hq hq'
  · have h2 : 0 < Int.gcd p q := by omega
    have h1 : Int.gcd p q = Int.gcd p q * Int.gcd p' q' := by
      have key : ∀ G : Nat, p = G * p' → q = G * q' → Int.gcd p q = G * Int.gcd p' q' := fun G a b => by
        rw [a, b, Int.gcd_mul_left, Int.natAbs_natCast]
      exact key _ hp hq'
    have h3 : Int.gcd p q * 1 = Int.gcd p q * Int.gcd p' q' := by rw [Nat.mul_one]; exact h1
    exact (Nat.eq_of_mul_eq_mul_left h2 h3).symm
  · unfold rn
    split
    · have e : -p = (Int.gcd p q : Int) * (-p') := by rw [Int.mul_neg, ← hp]
      conv => lhs; rw [e]
      exact fl_mul (by omega)
    · conv => lhs; arg 1; rw [hp]
      exact fl_mul (by omega)
  · unfold rd
    have e : (q.natAbs : Int) = (Int.gcd p q : Int) * (q'.natAbs : Int) := by
      have := congrArg Int.natAbs hq'
      rw [Int.natAbs_mul, Int.natAbs_natCast] at this
      rw [← Int.natCast_mul]
      exact congrArg Int.ofNat this
    rw [e]
    exact fl_mul (by omega)
theorem r_spec (p : Int) {q : Int} (hq : q ≠ 0) : 0 < rd p q ∧ rn p q * q = p * rd p q ∧ Int.gcd (rn p q) (rd p q) = 1 := by
  obtain ⟨g, p', q', hg, _, hp, hq', hq0, hc, e1, e2⟩ := r_parts p hq
  rw [e1, e2]
  by_cases h : q < 0
  · rw [if_pos h]
    have hn : q' < 0 := by
      rcases Int.lt_trichotomy q' 0 with h1 | h1 | h1
      · exact h1
      · exact absurd h1 hq0
      · have := Int.mul_pos hg h1; omega
    refine ⟨by omega, ?_, ?_⟩
    · rw [show (q'.natAbs : Int) = -q' by omega, hp, hq']
      grind
    · show Nat.gcd (-p').natAbs (q'.natAbs : Int).natAbs = 1
      rw [Int.natAbs_neg, Int.natAbs_natCast]
      exact hc
  · rw [if_neg h]
    have hn : 0 < q' := by
      rcases Int.lt_trichotomy q' 0 with h1 | h1 | h1
      · have := Int.mul_neg_of_pos_of_neg hg h1; omega
      · exact absurd h1 hq0
      · exact h1
    refine ⟨by omega, ?_, ?_⟩
    · rw [show (q'.natAbs : Int) = q' by omega, hp, hq']
      grind
    · rw [show (q'.natAbs : Int) = q' by omega]; exact hc
theorem dvd_of_cop {a b c : Int} (h : Int.gcd a b = 1) (hd : b ∣ a * c) : b ∣ c := by
  have h1 : b.natAbs ∣ a.natAbs * c.natAbs := by rw [← Int.natAbs_mul]; exact Int.natAbs_dvd_natAbs.2 hd
  have h2 : Nat.Coprime b.natAbs a.natAbs := by
    have : Nat.gcd a.natAbs b.natAbs = 1 := h
    rw [Nat.Coprime, Nat.gcd_comm]; exact this
  exact Int.natAbs_dvd_natAbs.1 (h2.dvd_of_dvd_mul_left h1)
theorem r_unique {n d p q : Int} (hq : q ≠ 0) (hd : 0 < d) (hc : Int.gcd n d = 1) (h : n * q = p * d) : rn p q = n ∧ rd p q = d := by
  obtain ⟨h1, h2, h3⟩ := r_spec p hq
  generalize rn p q = n' at *
  generalize rd p q = d' at *
  have hx : n * d' = n' * d := by
    have : q * (n * d') = q * (n' * d) := by grind
    exact Int.eq_of_mul_eq_mul_left hq this
  have a1 : d ∣ d' := dvd_of_cop hc ⟨n', by rw [hx, Int.mul_comm]⟩
  have a2 : d' ∣ d := dvd_of_cop h3 ⟨n, by rw [← hx, Int.mul_comm]⟩
  have e : d' = d := by
    have := Int.natAbs_dvd_natAbs.2 a1
    have := Int.natAbs_dvd_natAbs.2 a2
    have := Nat.dvd_antisymm (Int.natAbs_dvd_natAbs.2 a1) (Int.natAbs_dvd_natAbs.2 a2)
    omega
  subst e
  exact ⟨(Int.eq_of_mul_eq_mul_right (by omega) hx).symm, rfl⟩
/-- Only the ratio counts. -/
theorem r_cross {p q p' q' : Int} (hq : q ≠ 0) (hq' : q' ≠ 0) (h : p * q' = p' * q) : rn p q = rn p' q' ∧ rd p q = rd p' q' := by
  obtain ⟨h1, h2, h3⟩ := r_spec p' hq'
  refine r_unique hq h1 h3 ?_
  generalize rn p' q' = n at *
  generalize rd p' q' = d at *
  have : q' * (n * q) = q' * (p * d) := by grind
  exact Int.eq_of_mul_eq_mul_left hq' this
theorem fl_le_abs {a b : Int} (hb : 0 < b) : (fl a b).natAbs ≤ a.natAbs := by
  obtain ⟨h1, h2⟩ : fl a b * b ≤ a ∧ a < (fl a b + 1) * b := by
    have h := fl_md a b
    have hr := md_range (z := a) (u := b) (by omega)
    rw [Int.add_mul]
    omega
  rcases Int.lt_or_le (fl a b) 0 with h | h
  · have h3 : (fl a b + 1) * b ≤ (fl a b + 1) * 1 := Int.mul_le_mul_of_nonpos_left (by omega) (by omega)
    omega
  · have h3 : fl a b * 1 ≤ fl a b * b := Int.mul_le_mul_of_nonneg_left (by omega) h
    omega
theorem rn_len {p q : Int} {k : Nat} (hq : q ≠ 0) (h : (digs p.natAbs).length ≤ k) : (digs (rn p q).natAbs).length ≤ k := by
  refine Nat.le_trans (digs_len_le (Nat.lt_of_le_of_lt ?_ (digs_len_lt_iff.1 (Nat.le_refl _)))) h
  have hg := gcd_posq (p := p) hq
  unfold rn
  split
  · have := fl_le_abs (a := -p) hg
    rwa [Int.natAbs_neg] at this
  · exact fl_le_abs hg
theorem rd_len {p q : Int} {k : Nat} (hq : q ≠ 0) (h : (digs q.natAbs).length ≤ k) : (digs (rd p q).natAbs).length ≤ k := by
  refine Nat.le_trans (digs_len_le (Nat.lt_of_le_of_lt ?_ (digs_len_lt_iff.1 (Nat.le_refl _)))) h
  have := fl_le_abs (a := (q.natAbs : Int)) (gcd_posq (p := p) hq)
  rwa [Int.natAbs_natCast] at this
theorem q_sign {q : Int} : (decide (q.sign < 0) = false ↔ 0 ≤ q) ∧ (decide (q.sign < 0) = true ↔ q < 0) ∧ (decide (q.sign ≤ 0) = false ↔ 0 < q) ∧ (decide (q.sign ≤ 0) = true ↔ q ≤ 0) := by
  rcases Int.lt_trichotomy q 0 with h | h | h
  · rw [Int.sign_eq_neg_one_of_neg h]; simp; omega
  · rw [h]; simp
  · rw [Int.sign_eq_one_of_pos h]; simp; omega
theorem md_zero {z g : Int} (hg : g ≠ 0) (h : g ∣ z) : ((md z g).sign == 0) = true := by
  obtain ⟨k, rfl⟩ := h
  rw [md_mul hg]
  rfl
theorem made_pos {p q : Int} (hq : q ≠ 0) (d : decide (q.sign < 0) = false) : fl p (Int.gcd p q : Int) = rn p q ∧ fl q (Int.gcd p q : Int) = rd p q ∧ (Int.gcd p q : Int) ≠ 0 ∧ ((md p (Int.gcd p q : Int)).sign == 0) = true ∧ ((md q (Int.gcd p q : Int)).sign == 0) = true := by
  have h0 := q_sign.1.1 d
  have hg := gcd_posq (p := p) hq
  refine ⟨?_, ?_, by omega, md_zero (by omega) (Int.gcd_dvd_left ..), md_zero (by omega) (Int.gcd_dvd_right ..)⟩
  · unfold rn; rw [if_neg (by omega)]
  · unfold rd; rw [show (q.natAbs : Int) = q by omega]
theorem made_neg {p q : Int} (d : decide (q.sign < 0) = true) : fl (-p) (Int.gcd (-p) (-q) : Int) = rn p q ∧ fl (-q) (Int.gcd (-p) (-q) : Int) = rd p q ∧ (Int.gcd (-p) (-q) : Int) ≠ 0 ∧ ((md (-p) (Int.gcd (-p) (-q) : Int)).sign == 0) = true ∧ ((md (-q) (Int.gcd (-p) (-q) : Int)).sign == 0) = true := by
  have h0 := q_sign.2.1.1 d
  have e : Int.gcd (-p) (-q) = Int.gcd p q := by unfold Int.gcd; rw [Int.natAbs_neg, Int.natAbs_neg]
  have hg := gcd_posq (p := p) (q := q) (by omega)
  have h1 : (Int.gcd (-p) (-q) : Int) ≠ 0 := by rw [e]; omega
  refine ⟨?_, ?_, h1, md_zero h1 (Int.gcd_dvd_left ..), md_zero h1 (Int.gcd_dvd_right ..)⟩
  · rw [e]; unfold rn; rw [if_pos h0]
  · rw [e]; unfold rd; rw [show (q.natAbs : Int) = -q by omega]
theorem gcd_lenq {a b : Int} {N : Nat} (hb : b ≠ 0) (h : (digs b.natAbs).length ≤ N) : (digs ((Int.gcd a b : Int)).natAbs).length ≤ N := by
  rw [Int.natAbs_natCast]
  refine Nat.le_trans (digs_len_le (Nat.lt_of_le_of_lt ?_ (digs_len_lt_iff.1 (Nat.le_refl _)))) h
  unfold Int.gcd
  exact Nat.gcd_le_right _ (by omega)
theorem rd_ne {p q : Int} (hq : q ≠ 0) : rd p q ≠ 0 := by have := (r_spec p hq).1; omega
theorem ref_pos {p q : Int} (hq : q ≠ 0) (d : decide (q.sign < 0) = false) : zof (decide (p < 0)) (p.natAbs / Nat.gcd p.natAbs q.natAbs) = rn p q ∧ ((q.natAbs / Nat.gcd p.natAbs q.natAbs : Nat) : Int) = rd p q ∧ 0 < Nat.gcd p.natAbs q.natAbs := by
  have h0 := q_sign.1.1 d
  obtain ⟨g, p', q', hg, hgg, hp, hq', hq0, hc, e1, e2⟩ := r_parts p hq
  rw [e1, e2, if_neg (by omega)]
  have hG : Nat.gcd p.natAbs q.natAbs = g.natAbs := by
    have : (Int.gcd p q : Int) = g := hgg.symm
    unfold Int.gcd at this
    omega
  rw [hG]
  have a1 : p.natAbs / g.natAbs = p'.natAbs := by rw [hp, Int.natAbs_mul]; exact Nat.mul_div_cancel_left _ (by omega)
  have a2 : q.natAbs / g.natAbs = q'.natAbs := by rw [hq', Int.natAbs_mul]; exact Nat.mul_div_cancel_left _ (by omega)
  rw [a1, a2]
  refine ⟨?_, rfl, by omega⟩
  have hs : decide (p < 0) = decide (p' < 0) := by
    rw [decide_eq_decide, hp]
    constructor
    · intro h
      rcases Int.lt_trichotomy p' 0 with h1 | h1 | h1
      · exact h1
      · rw [h1, Int.mul_zero] at h; omega
      · have := Int.mul_pos hg h1; omega
    · exact fun h => Int.mul_neg_of_pos_of_neg hg h
  rw [hs]
  unfold zof
  by_cases h : p' < 0
  · rw [decide_eq_true h]; simp; omega
  · rw [decide_eq_false h]; simp; omega
theorem rn_neg2 {p q : Int} (hq : q ≠ 0) : rn (-p) (-q) = rn p q ∧ rd (-p) (-q) = rd p q := r_cross (by omega) hq (by rw [Int.neg_mul, Int.mul_neg])
theorem ref_neg {p q : Int} (d : decide (q.sign < 0) = true) : zof (decide (-p < 0)) ((-p).natAbs / Nat.gcd (-p).natAbs (-q).natAbs) = rn p q ∧ (((-q).natAbs / Nat.gcd (-p).natAbs (-q).natAbs : Nat) : Int) = rd p q ∧ 0 < Nat.gcd (-p).natAbs (-q).natAbs := by
  have h0 := q_sign.2.1.1 d
  have hq : q ≠ 0 := by omega
  obtain ⟨e1, e2⟩ := rn_neg2 (p := p) hq
  have := ref_pos (p := -p) (q := -q) (by omega) (q_sign.1.2 (by omega))
  rw [e1, e2] at this
  exact this
theorem div_len {a b N : Nat} (h : (digs a).length ≤ N) : (digs (a / b)).length ≤ N := Nat.le_trans (digs_len_le (Nat.lt_of_le_of_lt (Nat.div_le_self a b) (digs_len_lt_iff.1 (Nat.le_refl _)))) h
end Go.Proofs.Ytdmahjbjlppeaaa
