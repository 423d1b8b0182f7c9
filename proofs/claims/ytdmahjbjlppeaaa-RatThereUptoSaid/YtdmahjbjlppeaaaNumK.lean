
/- What the law ZintBack says of numbers. -/
import Derived.Test.YtdmahjbjlppeaaaNumT
import Derived.Test.YtdmahjbjlppeaaaNumP
import Derived.Test.YtdmahjbjlppeaaaA4
namespace Go.Proofs.Ytdmahjbjlppeaaa

theorem sg_nonpos' {d : Int} (h : d ≤ 0) : decide (d.sign ≤ 0) = true ∧ decide (0 < d.sign) = false := by
  rcases Int.lt_trichotomy d 0 with h1 | h1 | h1
  · rw [Int.sign_eq_neg_one_of_neg h1]; decide
  · rw [h1]; decide
  · omega
theorem sg_pos' {d : Int} (h : 0 < d) : decide (d.sign ≤ 0) = false ∧ decide (0 < d.sign) = true := by
  rw [Int.sign_eq_one_of_pos h]; decide
theorem root_facts {z : Int} {N : Nat} (la : (digs z.natAbs).length ≤ N) (h : decide (z.sign < 0) = false) : decide (0 ≤ z.sign) = true ∧ decide ((rootN z.natAbs : Int).sign < 0) = false ∧
    decide (0 < ((rootN z.natAbs : Int) * (rootN z.natAbs : Int) - z).sign) = false ∧ decide ((((rootN z.natAbs : Int) + 1) * ((rootN z.natAbs : Int) + 1) - z).sign ≤ 0) = false ∧ (digs (rootN z.natAbs : Int).natAbs).length ≤ N := by
  have hz : 0 ≤ z.sign := by have := of_decide_eq_false h; omega
  have hz0 := Int.sign_nonneg_iff.1 hz
  obtain ⟨h1, h2⟩ := rootN_spec z.natAbs
  have e1 : ((rootN z.natAbs * rootN z.natAbs : Nat) : Int) ≤ z := by omega
  have e2 : z < (((rootN z.natAbs + 1) * (rootN z.natAbs + 1) : Nat) : Int) := by omega
  rw [Int.natCast_mul] at e1 e2
  rw [Int.natCast_add] at e2
  refine ⟨decide_eq_true hz, ?_, (sg_nonpos' (by omega)).2, (sg_pos' (by simp at e2; omega)).1, ?_⟩
  · have := Int.sign_nonneg_iff.2 (Int.natCast_nonneg (rootN z.natAbs))
    exact decide_eq_false (by omega)
  · rw [Int.natAbs_natCast]
    refine Nat.le_trans (digs_len_le (Nat.lt_of_le_of_lt ?_ (digs_len_lt_iff.1 (Nat.le_refl (digs z.natAbs).length)))) la
    rcases Nat.eq_zero_or_pos (rootN z.natAbs) with h0 | h0
    · omega
    · exact Nat.le_trans (Nat.le_mul_of_pos_left _ h0) h1
theorem neg_fact {z : Int} (h : decide (z.sign < 0) = true) : decide (0 ≤ z.sign) = false := decide_eq_false (by have := of_decide_eq_true h; omega)
theorem up_len {m : Int} {e : Nat} (h : (digs m.natAbs).length ≤ 2) (he : e ≤ 65536) : (digs (m * ((2 ^ e : Nat) : Int)).natAbs).length ≤ 100000 := by
  refine Nat.le_trans (len_mul (k := 2) (m := e / 32 + 1) h ?_) (by omega)
  rw [Int.natAbs_natCast]
  refine len_of_bits (blen_le_iff.2 (Nat.pow_lt_pow_right (by omega) (by omega)))
theorem top_parts {M e : Nat} (he : max 0 ((blen M : Int) - 53) = (e : Int)) : M / 2 ^ e < 9007199254740992 ∧ (0 < e → 4503599627370496 ≤ M / 2 ^ e) := by
  have hlt : M < 2 ^ blen M := blen_le_iff.1 (Nat.le_refl _)
  by_cases h0 : 53 < blen M
  · have h1 : blen M = 53 + e := by omega
    have hp : 0 < 2 ^ e := Nat.pow_pos (by omega)
    constructor
    · rw [Nat.div_lt_iff_lt_mul hp, show (9007199254740992 : Nat) = 2 ^ 53 by rfl, ← Nat.pow_add, ← h1]
      exact hlt
    · intro _
      rw [Nat.le_div_iff_mul_le hp, show (4503599627370496 : Nat) = 2 ^ 52 by rfl, ← Nat.pow_add, show 52 + e = blen M - 1 by omega]
      exact blen_le (by rcases Nat.eq_zero_or_pos M with h | h; rw [h, blen_zero] at h0; omega; exact h)
  · have h1 : e = 0 := by omega
    subst h1
    refine ⟨?_, fun h => absurd h (by omega)⟩
    rw [Nat.pow_zero, Nat.div_one]
    refine Nat.lt_of_lt_of_le hlt ?_
    rw [show (9007199254740992 : Nat) = 2 ^ 53 by rfl]
    exact Nat.pow_le_pow_right (by omega) (by omega)
theorem numR_lt {l : List Int} (h : ∀ x, x ∈ l → 48 ≤ x ∧ x ≤ 57) : numR l < 10 ^ l.length := by
  induction l with
  | nil => simp [numR]
  | cons x r ih =>
    have hx := h x List.mem_cons_self
    have := ih fun y hy => h y (List.mem_cons_of_mem _ hy)
    rw [numR, List.length_cons, Nat.pow_succ]
    omega
theorem decs_big (n : Nat) : n < 10 ^ (decs n).length := by
  have := numR_lt (l := (decs n).reverse) fun x hx => decs_lim n x (List.mem_reverse.1 hx)
  rwa [numR_decs, List.length_reverse] at this
theorem ztxt_size (z : Int) : (decs z.natAbs).length ≤ (ztxt z).size ∧ (ztxt z).size ≤ (decs z.natAbs).length + 1 := by
  unfold ztxt
  split
  · rw [size_minus, strOfNums_size]; omega
  · rw [strOfNums_size]; omega
theorem ztxt_digs (z : Int) : (digs z.natAbs).length ≤ (ztxt z).size := by
  have h1 := decs_big z.natAbs
  exact Nat.le_trans (digs_len_le (Nat.lt_of_lt_of_le h1 (Nat.pow_le_pow_left (by omega) _))) (ztxt_size z).1
theorem decs_short {n k : Nat} (h : n < 10 ^ k) (hk : 0 < k) : (decs n).length ≤ k := by
  unfold decs
  split
  · exact hk
  · rw [List.length_reverse]; exact decR_len_le h
/-- A number of fewer than 10000 bits has a short text. -/
theorem ztxt_small {z : Int} {k : Nat} (h : blen z.natAbs ≤ k) : (ztxt z).size ≤ k + 2 := by
  have h1 : z.natAbs < 10 ^ (k + 1) := by
    have : z.natAbs < 2 ^ k := blen_le_iff.1 h
    exact Nat.lt_of_lt_of_le this (Nat.le_trans (Nat.pow_le_pow_left (by omega) k) (Nat.pow_le_pow_right (by omega) (by omega)))
  have := decs_short h1 (by omega)
  have := (ztxt_size z).2
  omega
end Go.Proofs.Ytdmahjbjlppeaaa
