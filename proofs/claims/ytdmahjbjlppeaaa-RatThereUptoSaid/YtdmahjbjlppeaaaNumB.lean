
/- Euclid's steps with what each rest is made of: bounds, and the least cofactor. -/
import Derived.Test.YtdmahjbjlppeaaaA4
namespace Go.Proofs.Ytdmahjbjlppeaaa

theorem ilt (a b : Int) : a < b ∨ b ≤ a := by omega
/-- What holds between the steps, of a and b (b not nought). -/
structure BInv (a b r s x u : Int) : Prop where
  px : b ∣ x * a - r
  pu : b ∣ u * a - s
  gcd : Int.gcd r s = Int.gcd a b
  det : u * r - x * s = b ∨ u * r - x * s = -b
  opp : (u * r) * (x * s) ≤ 0
  xb : x.natAbs ≤ b.natAbs
  ub : u.natAbs ≤ b.natAbs
  rb : r.natAbs ≤ max a.natAbs b.natAbs
  sb : s.natAbs ≤ b.natAbs
  xu : x * u ≤ 0
  way : (x = 1 ∧ u = 0) ∨ 0 ≤ r * s
theorem BInv.start {a b : Int} (hb : b ≠ 0) : BInv a b a b 1 0 where
  px := ⟨0, by omega⟩
  pu := ⟨-1, by omega⟩
  gcd := rfl
  det := .inr (by omega)
  opp := by omega
  xb := by omega
  ub := by omega
  rb := by omega
  sb := by omega
  xu := by omega
  way := .inl ⟨rfl, rfl⟩
theorem abs_sum {p q : Int} (h : p * q ≤ 0) : (p - q).natAbs = p.natAbs + q.natAbs := by
  rcases Int.lt_trichotomy p 0 with hp | hp | hp
  · have : 0 ≤ q := by
      rcases ilt q 0 with hq | hq
      · have := Int.mul_pos_of_neg_of_neg hp hq; omega
      · exact hq
    omega
  · omega
  · have : q ≤ 0 := by
      rcases ilt 0 q with hq | hq
      · have := Int.mul_pos hp hq; omega
      · exact hq
    omega
theorem BInv.step {a b r s x u : Int} (h : BInv a b r s x u) (hs : s ≠ 0) : BInv a b s (md r s) u (x - fl r s * u) := by
  have hr := fl_md r s
  have hrng := md_range (z := r) hs
  generalize fl r s = q at *
  generalize md r s = t at *
  have hss : 0 ≤ s * t := by
    rcases hrng with ⟨h1, h2⟩ | ⟨h1, h2⟩
    · exact Int.mul_nonneg (by omega) h1
    · exact Int.mul_nonneg_of_nonpos_of_nonpos (by omega) h2
  have huu : u * (x - q * u) ≤ 0 := by
    have e : u * (x - q * u) = x * u - q * (u * u) := by rw [Int.mul_sub, Int.mul_comm u x, Int.mul_left_comm]
    have hu2 : 0 ≤ u * u := by
      rcases Int.le_total 0 u with h1 | h1
      · exact Int.mul_nonneg h1 h1
      · exact Int.mul_nonneg_of_nonpos_of_nonpos h1 h1
    rcases h.way with ⟨_, h2⟩ | h2
    · rw [h2]; omega
    · have hq : 0 ≤ q := by
        rcases ilt q 0 with hq | hq
        · exfalso
          rcases Int.lt_trichotomy s 0 with h3 | h3 | h3
          · -- s < 0, r ≤ 0, q ≤ -1: r = q s + t with q s ≥ -s > 0, t > s
            have h4 : r ≤ 0 := by
              rcases ilt 0 r with h5 | h5
              · have := Int.mul_neg_of_pos_of_neg h5 h3; omega
              · exact h5
            have h6 : (q + 1) * s ≥ 0 := Int.mul_nonneg_of_nonpos_of_nonpos (by omega) (by omega)
            rw [Int.add_mul] at h6
            omega
          · exact hs h3
          · have h4 : 0 ≤ r := by
              rcases ilt r 0 with h5 | h5
              · have := Int.mul_neg_of_neg_of_pos h5 h3; omega
              · exact h5
            have h6 : (q + 1) * s ≤ 0 := Int.mul_nonpos_of_nonpos_of_nonneg (by omega) (by omega)
            rw [Int.add_mul] at h6
            omega
        · exact hq
      have := Int.mul_nonneg hq hu2
      have := h.xu
      omega
  have hdet : (x - q * u) * s - u * t = -(u * r - x * s) := by
    rw [hr, Int.sub_mul, Int.mul_add]
    have e : u * (q * s) = q * u * s := by rw [← Int.mul_assoc, Int.mul_comm u q]
    omega
  have hopp : ((x - q * u) * s) * (u * t) ≤ 0 := by
    have e : ((x - q * u) * s) * (u * t) = (u * (x - q * u)) * (s * t) := by
      generalize x - q * u = v
      rw [Int.mul_assoc, Int.mul_left_comm s u t, ← Int.mul_assoc, Int.mul_comm v u]
    rw [e]
    exact Int.mul_nonpos_of_nonpos_of_nonneg huu hss
  have hub : (x - q * u).natAbs ≤ b.natAbs := by
    have h1 := abs_sum hopp
    rw [hdet] at h1
    have h2 : (-(u * r - x * s)).natAbs = b.natAbs := by rcases h.det with h | h <;> omega
    rw [h2, Int.natAbs_mul] at h1
    have h3 : 0 < s.natAbs := by omega
    have h4 : (x - q * u).natAbs * 1 ≤ (x - q * u).natAbs * s.natAbs := Nat.mul_le_mul_left _ h3
    omega
  exact {
    px := h.pu
    pu := by
      have e : (x - q * u) * a - t = (x * a - r) - q * (u * a - s) := by
        rw [Int.sub_mul, Int.mul_sub, ← Int.mul_assoc]
        omega
      rw [e]
      exact Int.dvd_sub h.px (Int.dvd_mul_of_dvd_right h.pu)
    gcd := by
      rw [← h.gcd, hr, Int.gcd_comm s t, Int.gcd_comm (q * s + t) s]
      rw [Int.gcd_comm t s]
      simp
    det := by rw [hdet]; rcases h.det with h | h <;> omega
    opp := hopp
    xb := h.ub
    ub := hub
    rb := by have := h.sb; omega
    sb := by have := h.sb; omega
    xu := huu
    way := .inr hss }

/-- Bezout's least cofactor. -/
def bezX (a b : Int) : Int := (((List.range (b.natAbs / Int.gcd a b)).find? fun k : Nat => decide (b ∣ (k : Int) * a - (Int.gcd a b : Int))).getD 0 : Nat)
theorem bez_unique {a b d : Int} (h : b ∣ d * a) (hd : d.natAbs < b.natAbs / Int.gcd a b) : d = 0 := by
  have hg : 0 < Int.gcd a b := by
    rcases Nat.eq_zero_or_pos (Int.gcd a b) with h0 | h0
    · rw [h0, Nat.div_zero] at hd; omega
    · exact h0
  have h1 : b.natAbs ∣ d.natAbs * a.natAbs := by rw [← Int.natAbs_mul]; exact Int.natAbs_dvd_natAbs.2 h
  have h2 : b.natAbs ∣ d.natAbs * b.natAbs := Nat.dvd_mul_left _ _
  have h3 : b.natAbs ∣ d.natAbs * Int.gcd a b := by
    unfold Int.gcd
    rw [← Nat.gcd_mul_left]
    exact Nat.dvd_gcd h1 h2
  have h4 : d.natAbs * Int.gcd a b < b.natAbs := by
    have h5 : (d.natAbs + 1) * Int.gcd a b ≤ b.natAbs := (Nat.le_div_iff_mul_le hg).1 (by omega)
    rw [Nat.add_mul] at h5
    omega
  have h5 : d.natAbs * Int.gcd a b = 0 := by
    rcases Nat.eq_zero_or_pos (d.natAbs * Int.gcd a b) with h6 | h6
    · exact h6
    · have := Nat.le_of_dvd h6 h3; omega
  rcases Nat.mul_eq_zero.1 h5 with h6 | h6 <;> omega
theorem bezX_of {a b X : Int} (h0 : 0 ≤ X) (h1 : X < (b.natAbs / Int.gcd a b : Nat)) (h : b ∣ X * a - (Int.gcd a b : Int)) : bezX a b = X := by
  have hX : X.toNat < b.natAbs / Int.gcd a b := by
    generalize b.natAbs / Int.gcd a b = n at *
    omega
  unfold bezX
  cases hf : (List.range (b.natAbs / Int.gcd a b)).find? fun k : Nat => decide (b ∣ (k : Int) * a - (Int.gcd a b : Int)) with
  | none =>
    have := List.find?_eq_none.1 hf X.toNat (List.mem_range.2 hX)
    rw [Int.toNat_of_nonneg h0] at this
    simp [h] at this
  | some k =>
    have hk := List.find?_some hf
    have hm := List.mem_range.1 (List.mem_of_find?_eq_some hf)
    simp only [decide_eq_true_eq] at hk
    have hd : b ∣ ((k : Int) - X) * a := by
      have e : ((k : Int) - X) * a = ((k : Int) * a - (Int.gcd a b : Int)) - (X * a - (Int.gcd a b : Int)) := by rw [Int.sub_mul]; omega
      rw [e]
      exact Int.dvd_sub hk h
    have := bez_unique hd (by
      generalize b.natAbs / Int.gcd a b = n at *
      omega)
    simp only [Option.getD_some]
    omega
theorem BInv.last {a b r x u : Int} (h : BInv a b r 0 x u) (hb : b ≠ 0) : r ≠ 0 ∧ r.natAbs = Int.gcd a b := by
  have hg : r.natAbs = Int.gcd a b := by have := h.gcd; simpa using this
  refine ⟨fun e => ?_, hg⟩
  subst e
  have : Int.gcd a b ≠ 0 := by
    intro e
    have := Int.gcd_eq_zero_iff.1 e
    exact hb this.2
  omega
theorem bez_fin {a b r x : Int} (hb : b ≠ 0) (hr : 0 < r) (hg : r.natAbs = Int.gcd a b) (hx : b ∣ x * a - r) :
    r = (Int.gcd a b : Int) ∧ fl (b.natAbs : Int) r ≠ 0 ∧ md x (fl (b.natAbs : Int) r) = bezX a b := by
  have hrg : r = (Int.gcd a b : Int) := by omega
  have hst : fl (b.natAbs : Int) r = ((b.natAbs / Int.gcd a b : Nat) : Int) := by
    unfold fl
    rw [if_neg (by omega), hrg]
    rfl
  have hgb : Int.gcd a b ∣ b.natAbs := by unfold Int.gcd; exact Nat.gcd_dvd_right _ _
  have hga : Int.gcd a b ∣ a.natAbs := by unfold Int.gcd; exact Nat.gcd_dvd_left _ _
  have hpos : 0 < b.natAbs / Int.gcd a b := Nat.div_pos (Nat.le_of_dvd (by omega) hgb) (by omega)
  have hne : fl (b.natAbs : Int) r ≠ 0 := by rw [hst]; omega
  refine ⟨hrg, hne, ?_⟩
  have hrng := md_range (z := x) hne
  have hfm := fl_md x (fl (b.natAbs : Int) r)
  rw [hst] at hrng hfm ⊢
  generalize md x ((b.natAbs / Int.gcd a b : Nat) : Int) = X at *
  generalize fl x ((b.natAbs / Int.gcd a b : Nat) : Int) = q at *
  refine (bezX_of (by omega) (by omega) ?_).symm
  have hsd : b ∣ ((b.natAbs / Int.gcd a b : Nat) : Int) * a := by
    obtain ⟨a', ha'⟩ := hga
    obtain ⟨b', hb'⟩ := hgb
    have e1 : b.natAbs / Int.gcd a b = b' := by rw [hb']; exact Nat.mul_div_cancel_left _ (by omega)
    rw [e1]
    refine Int.natAbs_dvd_natAbs.1 ?_
    rw [Int.natAbs_mul, Int.natAbs_natCast, hb', ha', ← Nat.mul_assoc, Nat.mul_comm b' (Int.gcd a b)]
    exact Nat.dvd_mul_right _ _
  have e : X * a - (Int.gcd a b : Int) = (x * a - r) - q * (((b.natAbs / Int.gcd a b : Nat) : Int) * a) := by
    rw [← Int.mul_assoc, ← Int.sub_sub_self (x * a) (X * a)]
    have : x * a = q * ((b.natAbs / Int.gcd a b : Nat) : Int) * a + X * a := by
      conv => lhs; rw [hfm, Int.add_mul]
    omega
  rw [e]
  exact Int.dvd_sub hx (Int.dvd_mul_of_dvd_right hsd)
theorem md_lt {z u : Int} (hu : u ≠ 0) : (md z u).natAbs < u.natAbs := by
  have := md_range (z := z) hu
  omega
theorem len_max {a b r : Int} {N : Nat} (h : r.natAbs ≤ max a.natAbs b.natAbs) (ha : (digs a.natAbs).length ≤ N) (hb : (digs b.natAbs).length ≤ N) : (digs r.natAbs).length ≤ N := by
  have h1 := digs_len_lt_iff.1 ha
  have h2 := digs_len_lt_iff.1 hb
  exact digs_len_le (by omega)
theorem len_le {a b : Int} {N : Nat} (h : a.natAbs ≤ b.natAbs) (hb : (digs b.natAbs).length ≤ N) : (digs a.natAbs).length ≤ N := digs_len_le (Nat.lt_of_le_of_lt h (digs_len_lt_iff.1 hb))
theorem dvd_other {a b r x : Int} (h : b ∣ x * a - r) : b ∣ -x * a - -r := by
  have e : -x * a - -r = -(x * a - r) := by rw [Int.neg_mul]; omega
  rw [e]
  exact Int.dvd_neg.2 h
end Go.Proofs.Ytdmahjbjlppeaaa
