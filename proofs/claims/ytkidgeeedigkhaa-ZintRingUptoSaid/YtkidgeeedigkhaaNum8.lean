/- Decimal digits. -/
import Derived.Test.YtkidgeeedigkhaaNum6
namespace Go.Proofs.Ytkidgeeedigkhaa

/-- The digits of a number as bytes, the lowest first; of 0 none. -/
def decR (n : Nat) : List Int := if h : n = 0 then [] else ((48 + n % 10 : Nat) : Int) :: decR (n / 10)
termination_by n
decreasing_by omega
theorem decR_zero : decR 0 = [] := by rw [decR]; simp
theorem decR_pos {n : Nat} (h : 0 < n) : decR n = ((48 + n % 10 : Nat) : Int) :: decR (n / 10) := by rw [decR, dif_neg (by omega)]
theorem decR_lim (n : Nat) : ∀ x, x ∈ decR n → 48 ≤ x ∧ x ≤ 57 := by
  induction n using Nat.strongRecOn with
  | ind n ih =>
    intro x hx
    rcases Nat.eq_zero_or_pos n with h | h
    · subst h; rw [decR_zero] at hx; simp at hx
    · rw [decR_pos h] at hx
      rcases List.mem_cons.1 hx with rfl | hx
      · omega
      · exact ih _ (by omega) x hx
theorem decR_len_le {n k : Nat} (h : n < 10 ^ k) : (decR n).length ≤ k := by
  induction k generalizing n with
  | zero => have : n = 0 := by simpa using h
            subst this; rw [decR_zero]; simp
  | succ k ih =>
    rcases Nat.eq_zero_or_pos n with h0 | h0
    · subst h0; rw [decR_zero]; simp
    · rw [decR_pos h0, List.length_cons]
      have : n / 10 < 10 ^ k := by rw [Nat.pow_succ] at h; omega
      have := ih this
      omega
theorem decR_len_val {l : List Int} (h : Lim l) : (decR (val l)).length ≤ 10 * l.length := by
  apply decR_len_le
  refine Nat.lt_of_lt_of_le (val_lt h) ?_
  rw [Nat.pow_mul]
  exact Nat.pow_le_pow_left (by decide) _
/-- One digit off a chunk of nine. -/
theorem decR_chunk {q r k : Nat} (hk : k < 9) (hr : r < 10 ^ (9 - k)) (hp : 0 < q ∨ 0 < r) :
    decR (q * 10 ^ (9 - k) + r) = ((48 + r % 10 : Nat) : Int) :: decR (q * 10 ^ (9 - (k + 1)) + r / 10) ∧ r / 10 < 10 ^ (9 - (k + 1)) := by
  obtain ⟨m, hm⟩ : ∃ m, 9 - k = m + 1 := ⟨8 - k, by omega⟩
  have hm2 : 9 - (k + 1) = m := by omega
  rw [hm, Nat.pow_succ] at hr
  rw [hm2, hm, Nat.pow_succ]
  have hT : 0 < 10 ^ m := Nat.pow_pos (by omega)
  have hv : 0 < q * (10 ^ m * 10) + r := by
    rcases hp with h | h
    · have : 1 * (10 ^ m * 10) ≤ q * (10 ^ m * 10) := Nat.mul_le_mul_right _ h
      omega
    · omega
  rw [decR_pos hv]
  have e : q * (10 ^ m * 10) + r = 10 * (q * 10 ^ m) + r := by grind
  rw [e]
  refine ⟨?_, by omega⟩
  congr 2
  · omega
  · omega
/-- A row that is turned round, i places from each end. -/
structure RevInv (o z : List Int) (i : Nat) : Prop where
  len : z.length = o.length
  at_ : ∀ p, p < o.length → z.getD p 0 = if p < i ∨ o.length ≤ p + i then o.getD (o.length - 1 - p) 0 else o.getD p 0
theorem RevInv.start (o : List Int) : RevInv o o 0 := ⟨rfl, fun p hp => by rw [if_neg (by omega)]⟩
theorem RevInv.step {o z : List Int} {i : Nat} (h : RevInv o z i) (hi : i + i + 1 < o.length) : RevInv o ((z.set i (o.getD (o.length - 1 - i) 0)).set (o.length - 1 - i) (o.getD i 0)) (i + 1) := by
  refine ⟨by simp [h.len], fun p hp => ?_⟩
  by_cases h1 : p = o.length - 1 - i
  · subst h1
    rw [getD_set_same _ _ _ (by simp [h.len]; omega), if_pos (by omega)]
    congr 1; omega
  · rw [getD_set_ne _ _ _ _ (fun e => h1 e.symm)]
    by_cases h2 : p = i
    · subst h2
      rw [getD_set_same _ _ _ (by rw [h.len]; omega), if_pos (by omega)]
    · rw [getD_set_ne _ _ _ _ (fun e => h2 e.symm), h.at_ p hp]
      by_cases h3 : p < i ∨ o.length ≤ p + i
      · rw [if_pos h3, if_pos (by omega)]
      · rw [if_neg h3, if_neg (by omega)]
theorem getD_ext {a b : List Int} (hl : a.length = b.length) (h : ∀ p, p < b.length → a.getD p 0 = b.getD p 0) : a = b := by
  apply List.ext_getElem hl
  intro i h1 h2
  have := h i h2
  rwa [List.getD_eq_getElem?_getD, List.getD_eq_getElem?_getD, List.getElem?_eq_getElem h1, List.getElem?_eq_getElem h2] at this
theorem RevInv.last {o z : List Int} {i : Nat} (h : RevInv o z i) (hi : o.length ≤ i + i + 1) : z = o.reverse := by
  apply getD_ext (by simp [h.len])
  intro p hp
  rw [List.length_reverse] at hp
  rw [h.at_ p hp, List.getD_eq_getElem?_getD (l := o.reverse), List.getElem?_reverse hp, ← List.getD_eq_getElem?_getD]
  by_cases h3 : p < i ∨ o.length ≤ p + i
  · rw [if_pos h3]
  · rw [if_neg h3]
    congr 1; omega
/-- The text of a number. -/
def decs (n : Nat) : List Int := if n = 0 then [48] else (decR n).reverse
end Go.Proofs.Ytkidgeeedigkhaa
