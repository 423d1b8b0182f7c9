
/- Powers by squaring; how long they are. -/
import Derived.Test.YtdmahjbjlppeaaaA4
namespace Go.Proofs.Ytdmahjbjlppeaaa

theorem len_of_bits {x k : Nat} (h : blen x ≤ 32 * k) : (digs x).length ≤ k := by
  refine digs_len_le ?_
  rw [show (4294967296 : Nat) = 2 ^ 32 from rfl, ← Nat.pow_mul]
  exact blen_le_iff.1 h
theorem ipow_len {a : Int} {n : Nat} (h : blen a.natAbs * n ≤ 65536) : (digs (a ^ n).natAbs).length ≤ 2049 := by
  refine len_of_bits (Nat.le_trans (m := blen a.natAbs * n + 1) (blen_le_iff.2 ?_) (by omega))
  rw [Int.natAbs_pow]
  have h1 : a.natAbs < 2 ^ blen a.natAbs := blen_le_iff.1 (Nat.le_refl _)
  have h2 : a.natAbs ^ n ≤ (2 ^ blen a.natAbs) ^ n := Nat.pow_le_pow_left (by omega) _
  rw [← Nat.pow_mul] at h2
  exact Nat.lt_of_le_of_lt h2 (Nat.pow_lt_pow_right (by omega) (by omega))
/-- p times x to the m is a to the n. -/
structure PInv (a : Int) (n : Nat) (p x m : Int) : Prop where
  pos : 0 < m
  a0 : a ≠ 0
  eq : p * x ^ m.toNat = a ^ n
theorem PInv.start {a n : Int} (h : a ≠ 0) (hn : 0 < n) : PInv a n.toNat 1 a n := ⟨hn, h, by rw [Int.one_mul]⟩
theorem PInv.ne {a p x m : Int} {n : Nat} (h : PInv a n p x m) : p ≠ 0 ∧ x ≠ 0 := by
  have h1 : p * x ^ m.toNat ≠ 0 := by rw [h.eq]; exact Int.pow_ne_zero h.a0
  constructor
  · intro e; apply h1; rw [e, Int.zero_mul]
  · intro e; apply h1; rw [e, Int.zero_pow (by have := h.pos; omega), Int.mul_zero]
theorem PInv.small {a p x m : Int} {n : Nat} (h : PInv a n p x m) : p.natAbs ≤ (a ^ n).natAbs ∧ x.natAbs ≤ (a ^ n).natAbs := by
  obtain ⟨h1, h2⟩ := h.ne
  have hp : 0 < p.natAbs := by omega
  have hx : 0 < x.natAbs := by omega
  rw [← h.eq, Int.natAbs_mul, Int.natAbs_pow]
  obtain ⟨k, hk⟩ : ∃ k, m.toNat = k + 1 := ⟨m.toNat - 1, by have := h.pos; omega⟩
  rw [hk, Nat.pow_succ]
  have hxk : 0 < x.natAbs ^ k := Nat.pow_pos hx
  constructor
  · exact Nat.le_mul_of_pos_right _ (Nat.mul_pos hxk hx)
  · refine Nat.le_trans (Nat.le_mul_of_pos_left _ hxk) ?_
    exact Nat.le_mul_of_pos_left _ hp
theorem len_mono {x y : Int} {k : Nat} (h : x.natAbs ≤ y.natAbs) (hk : (digs y.natAbs).length ≤ k) : (digs x.natAbs).length ≤ k :=
  Nat.le_trans (digs_len_le (Nat.lt_of_le_of_lt h (digs_len_lt_iff.1 (Nat.le_refl _)))) hk
theorem sq_pow (x : Int) (k : Nat) : (x * x) ^ k = x ^ (2 * k) := by rw [Int.pow_mul, Int.pow_succ, Int.pow_one]
/-- The three ways of a round. -/
theorem PInv.ways {a p x m : Int} {n : Nat} (h : PInv a n p x m) :
    (m % 2 == 1) = true ∧ (m / 2 == 0) = true ∧ p * x = a ^ n ∨
    (m % 2 == 1) = true ∧ (m / 2 == 0) = false ∧ PInv a n (p * x) (x * x) (m / 2) ∨
    (m % 2 == 1) = false ∧ (m / 2 == 0) = false ∧ PInv a n p (x * x) (m / 2) := by
  have hp := h.pos
  have he := h.eq
  rcases Int.emod_two_eq m with h0 | h0
  · refine .inr (.inr ⟨by rw [h0]; rfl, beq_eq_false_iff_ne.2 (by omega), by omega, h.a0, ?_⟩)
    rw [sq_pow, show 2 * (m / 2).toNat = m.toNat by omega]
    exact he
  · by_cases h1 : m / 2 = 0
    · refine .inl ⟨by rw [h0]; rfl, by rw [h1]; rfl, ?_⟩
      rw [show m.toNat = 1 by omega, Int.pow_one] at he
      exact he
    · refine .inr (.inl ⟨by rw [h0]; rfl, beq_eq_false_iff_ne.2 h1, by omega, h.a0, ?_⟩)
      rw [sq_pow, Int.mul_assoc, ← Int.pow_succ', show 2 * (m / 2).toNat + 1 = m.toNat by omega]
      exact he
theorem pow_gt {n : Int} {b : Nat} (h0 : 0 < b) (hn : 0 ≤ n) (h : ¬ (65536 / (b : Int) < n)) : b * n.toNat ≤ 65536 := by
  have h1 : n * (b : Int) ≤ 65536 := by
    have := Int.mul_le_mul_of_nonneg_right (show n ≤ 65536 / (b : Int) by omega) (show (0 : Int) ≤ b by omega)
    exact Int.le_trans this (Int.ediv_mul_le _ (by omega))
  have h2 : ((b * n.toNat : Nat) : Int) = n * b := by rw [Int.natCast_mul, Int.toNat_of_nonneg hn, Int.mul_comm]
  omega
end Go.Proofs.Ytdmahjbjlppeaaa
