
/- The number of a text of decimal digits. -/
import Derived.Test.YtdmahjbjlppeaaaA1
namespace Go.Proofs.Ytdmahjbjlppeaaa

def byteN (s : ByteArray) (i : Nat) : Nat := if h : i < s.size then (s[i]'h).toNat else 0
theorem byteN_at {s : ByteArray} {i : Nat} (h : i < s.size) : byteN s i = (s[i]'h).toNat := by rw [byteN, dif_pos h]
theorem byteN_lt (s : ByteArray) (i : Nat) : byteN s i < 256 := by
  unfold byteN
  split
  · rename_i h; exact (s[i]'h).toNat_lt
  · omega
/-- A byte with which no text of a number goes on. -/
def BadAt (s : ByteArray) (i : Nat) : Prop := byteN s i < 48 ∨ 57 < byteN s i ∨ (i = 1 ∧ byteN s 0 = 48)
/-- The number of the first k digits. -/
def dv (s : ByteArray) : Nat → Nat
  | 0 => 0
  | k + 1 => 10 * dv s k + (byteN s k - 48)
/-- The number of k digits from place i on. -/
def dvFrom (s : ByteArray) (i : Nat) : Nat → Nat
  | 0 => 0
  | k + 1 => 10 * dvFrom s i k + (byteN s (i + k) - 48)
theorem dv_add (s : ByteArray) (i k : Nat) : dv s (i + k) = dv s i * 10 ^ k + dvFrom s i k := by
  induction k with
  | zero => simp [dvFrom]
  | succ k ih =>
    rw [← Nat.add_assoc, dv, dvFrom, ih, Nat.pow_succ]
    grind
theorem dvFrom_lt (s : ByteArray) (i k : Nat) (h : ∀ j, j < k → byteN s (i + j) ≤ 57) : dvFrom s i k < 10 ^ k := by
  induction k with
  | zero => simp [dvFrom]
  | succ k ih =>
    have h1 := ih (fun j hj => h j (by omega))
    have h2 := h k (by omega)
    rw [dvFrom, Nat.pow_succ]
    omega
theorem dv_lt (s : ByteArray) (k : Nat) (h : ∀ j, j < k → byteN s j ≤ 57) : dv s k < 10 ^ k := by
  induction k with
  | zero => simp [dv]
  | succ k ih =>
    have h1 := ih (fun j hj => h j (by omega))
    have h2 := h k (by omega)
    rw [dv, Nat.pow_succ]
    omega
/-- Either no byte is bad, or there is a first one. -/
theorem first_bad (s : ByteArray) (n : Nat) : (∀ j, j < n → ¬ BadAt s j) ∨ ∃ i, i < n ∧ BadAt s i ∧ ∀ j, j < i → ¬ BadAt s j := by
  induction n with
  | zero => exact .inl fun j hj => absurd hj (by omega)
  | succ n ih =>
    rcases ih with h | ⟨i, hi, hb, hn⟩
    · by_cases hb : BadAt s n
      · exact .inr ⟨n, by omega, hb, h⟩
      · refine .inl fun j hj => ?_
        by_cases e : j = n
        · subst e; exact hb
        · exact h j (by omega)
    · exact .inr ⟨i, by omega, hb, hn⟩

/-- After k rounds of 'times m and c', in place. -/
structure GrowInv (X o : List Int) (m v0 : Int) (k : Nat) (c : Int) : Prop where
  len : o.length = X.length
  tail : o.drop k = X.drop k
  lim : Lim o
  c0 : 0 ≤ c
  c1 : c < 4294967296
  eq : val (o.take k) + 4294967296 ^ k * c.toNat = val (X.take k) * m.toNat + v0.toNat
theorem GrowInv.start {X : List Int} (hX : Lim X) {m c : Int} (h0 : 0 ≤ c) (h1 : c < 4294967296) : GrowInv X X m c 0 c := ⟨rfl, rfl, hX, h0, h1, by simp [val]⟩
theorem GrowInv.last {X o : List Int} {m v0 c : Int} (h : GrowInv X o m v0 X.length c) : val o + 4294967296 ^ X.length * c.toNat = val X * m.toNat + v0.toNat := by
  have e := h.eq
  rwa [List.take_length, List.take_of_length_le (by rw [h.len]; exact Nat.le_refl _)] at e
end Go.Proofs.Ytdmahjbjlppeaaa
