/- Shifts, limb by limb. -/
import Derived.Test.YtkidgeeedigkhaaNum2
namespace Go.Proofs.Ytkidgeeedigkhaa

/-- P is a power of two below 2^32, M its complement. -/
structure Two32 (s : Nat) (P M : Int) : Prop where
  hs : s ≤ 31
  p : P = ((2 ^ s : Nat) : Int)
  m : M = ((2 ^ (32 - s) : Nat) : Int)
theorem Two32.mk' {s : Nat} (hs : s ≤ 31) : Two32 s ((2 ^ s : Nat) : Int) ((2 ^ (32 - s) : Nat) : Int) := ⟨hs, rfl, rfl⟩
theorem pow_split {s : Nat} (hs : s ≤ 31) : 2 ^ s * 2 ^ (32 - s) = 4294967296 := by rw [← Nat.pow_add, show s + (32 - s) = 32 by omega]
theorem Two32.pm {s : Nat} {P M : Int} (h : Two32 s P M) : P * M = 4294967296 ∧ 1 ≤ P ∧ P ≤ 2147483648 ∧ 2 ≤ M := by
  have h1 := pow_split h.hs
  have h2 : 2 ^ s ≤ 2 ^ 31 := Nat.pow_le_pow_right (by omega) h.hs
  have h3 : 2 ^ 1 ≤ 2 ^ (32 - s) := Nat.pow_le_pow_right (by omega) (by have := h.hs; omega)
  have h4 : 0 < 2 ^ s := Nat.pow_pos (by omega)
  have hp := h.p
  have hm := h.m
  refine ⟨?_, by omega, by omega, by omega⟩
  rw [hp, hm, ← Int.natCast_mul, h1]
  rfl
/-- What one limb becomes: its lower part, and what goes on. -/
theorem shl_limb {s : Nat} {P M x h : Int} (hP : Two32 s P M) (hx : 0 ≤ x ∧ x < 4294967296) (h0 : 0 ≤ h) (h1 : h < P) :
    0 ≤ x * P ∧ x * P < 9223372036854775808 ∧ (x * P % 4294967296).toNat % 2 ^ s = 0 ∧ 0 ≤ h + x * P % 4294967296 ∧ h + x * P % 4294967296 < 4294967296 ∧ 0 ≤ x * P / 4294967296 ∧ x * P / 4294967296 < P := by
  obtain ⟨e, p1, p2, m2⟩ := hP.pm
  have v0 : 0 ≤ x * P := Int.mul_nonneg hx.1 (by omega)
  have v1 : x * P ≤ 4294967295 * P := Int.mul_le_mul_of_nonneg_right (by omega) (by omega)
  have e1 : x * P % 4294967296 = P * (x % M) := by rw [← e, Int.mul_comm x P, Int.mul_emod_mul_of_pos _ _ (by omega)]
  have e2 : x * P / 4294967296 = x / M := by rw [← e, Int.mul_comm x P, Int.mul_ediv_mul_of_pos _ _ (by omega)]
  have m0 := Int.emod_nonneg x (show M ≠ 0 by omega)
  have m1 := Int.emod_lt_of_pos x (show 0 < M by omega)
  have l0 : 0 ≤ P * (x % M) := Int.mul_nonneg (by omega) m0
  have l1 : P * (x % M) ≤ P * (M - 1) := Int.mul_le_mul_of_nonneg_left (by omega) (by omega)
  rw [Int.mul_sub, e, Int.mul_one] at l1
  refine ⟨v0, by omega, ?_, by omega, by omega, ?_, ?_⟩
  · rw [e1, Int.toNat_mul (by omega) m0, hP.p, Int.toNat_natCast, Nat.mul_mod_right]
  · rw [e2]; exact Int.ediv_nonneg hx.1 (by omega)
  · rw [e2]
    refine Int.ediv_lt_of_lt_mul (by omega) ?_
    rw [e]; exact hx.2

structure ShlInv (X o : List Int) (w s : Nat) (i : Nat) : Prop where
  top : (o.getD (i + w) 0).toNat < 2 ^ s
  eq : val (o.take (i + w + 1)) = val (X.take i) * (2 ^ s * 4294967296 ^ w)
theorem ShlInv.start (X : List Int) (w s n : Nat) : ShlInv X (List.replicate n 0) w s 0 := by
  refine ⟨?_, ?_⟩
  · rw [List.getD_eq_getElem?_getD, List.getElem?_replicate]
    have := Nat.pow_pos (n := s) (show 0 < 2 by omega)
    split <;> simpa
  · rw [List.take_replicate, val_replicate]; simp [val]
theorem ShlInv.step {X o : List Int} {w s i : Nat} {P M : Int} (h : ShlInv X o w s i) (hP : Two32 s P M) (hX : Lim X) (ho : Lim o) (hi : i + w + 1 < o.length) :
    ShlInv X ((o.set (i + w) (o.getD (i + w) 0 + X.getD i 0 * P % 4294967296)).set (i + w + 1) (X.getD i 0 * P / 4294967296)) w s (i + 1) := by
  have hx := hX.getD i
  have hh := ho.getD (i + w)
  have ht := h.top
  have hpp := hP.p
  obtain ⟨a1, a2, a3, a4, a5, a6, a7⟩ := shl_limb hP hx hh.1 (by omega)
  refine ⟨?_, ?_⟩
  · rw [show i + 1 + w = i + w + 1 by omega, getD_set_same _ _ _ (by simpa using hi)]
    omega
  · have e := h.eq
    have c1 := val_set_take (o.set (i + w) (o.getD (i + w) 0 + X.getD i 0 * P % 4294967296)) (i + w + 1) (X.getD i 0 * P / 4294967296) (by simpa using hi)
    have c2 := val_set_take o (i + w) (o.getD (i + w) 0 + X.getD i 0 * P % 4294967296) (by omega)
    have c3 := val_take_succ' o (i + w)
    rw [show i + 1 + w + 1 = i + w + 1 + 1 by omega, c1, c2, val_take_succ' X, Nat.pow_succ]
    have hv : (X.getD i 0 * P).toNat = (X.getD i 0).toNat * 2 ^ s := by rw [Int.toNat_mul hx.1 (by omega), hpp, Int.toNat_natCast]
    rw [c3] at e
    rw [Nat.pow_add] at *
    generalize X.getD i 0 * P = v at *
    have hv2 : (o.getD (i + w) 0 + v % 4294967296).toNat + 4294967296 * (v / 4294967296).toNat = (o.getD (i + w) 0).toNat + (X.getD i 0).toNat * 2 ^ s := by omega
    generalize (o.getD (i + w) 0 + v % 4294967296).toNat = p at *
    generalize (v / 4294967296).toNat = q at *
    generalize (o.getD (i + w) 0).toNat = r at *
    generalize (X.getD i 0).toNat = x at *
    generalize 2 ^ s = T at *
    generalize 4294967296 ^ i = Bi at *
    generalize 4294967296 ^ w = Bw at *
    have : Bi * Bw * (p + 4294967296 * q) = Bi * Bw * (r + x * T) := by rw [hv2]
    grind
theorem pow_shift (n : Nat) : 2 ^ (n % 32) * 4294967296 ^ (n / 32) = 2 ^ n := by
  rw [pow_B, ← Nat.pow_add, Nat.mod_add_div]
theorem ShlInv.last {X o : List Int} {n : Nat} (h : ShlInv X o (n / 32) (n % 32) X.length) (ho : o.length = X.length + n / 32 + 1) : val o = val X * 2 ^ n := by
  have e := h.eq
  rw [List.take_of_length_le (by omega), List.take_length, pow_shift] at e
  exact e

theorem shr_limb {x x' s D : Nat} (hs : s ≤ 31) : (x + 4294967296 * x' + 4294967296 * 4294967296 * D) / 2 ^ s % 4294967296 = (x + 4294967296 * x') / 2 ^ s % 4294967296 := by
  have e := pow_split hs
  have : 4294967296 * 4294967296 * D = 2 ^ s * (4294967296 * (2 ^ (32 - s) * D)) := by
    rw [show 4294967296 * 4294967296 * D = (2 ^ s * 2 ^ (32 - s)) * 4294967296 * D by rw [e]]
    grind
  rw [this, Nat.add_mul_div_left _ _ (Nat.pow_pos (by omega)), Nat.add_mul_mod_self_left]
theorem val_drop_div (X : List Int) (hX : Lim X) (w : Nat) (hw : w ≤ X.length) : val X / 4294967296 ^ w = val (X.drop w) := by
  have e := val_take_drop X w hw
  have t := val_lt (hX.take w)
  rw [List.length_take, Nat.min_eq_left hw] at t
  rw [e, Nat.add_mul_div_left _ _ (Nat.pow_pos (by omega)), Nat.div_eq_of_lt t, Nat.zero_add]
structure ShrInv (X o : List Int) (w s i : Nat) : Prop where
  eq : val (o.take i) = val (X.drop w) / 2 ^ s % 4294967296 ^ i
theorem ShrInv.start (X o : List Int) (w s : Nat) : ShrInv X o w s 0 := ⟨by simp [val, Nat.mod_one]⟩
theorem ShrInv.step {X o : List Int} {w s i : Nat} (h : ShrInv X o w s i) (hs : s ≤ 31) (hX : Lim X) (hi : i < o.length) (hw : i + w < X.length) :
    ShrInv X (o.set i ((((X.getD (i + w) 0).toNat + 4294967296 * (X.getD (i + w + 1) 0).toNat) / 2 ^ s % 4294967296 : Nat) : Int)) w s (i + 1) := by
  refine ⟨?_⟩
  rw [val_set_take _ _ _ hi, h.eq, Int.toNat_natCast, Nat.pow_succ, Nat.mod_mul, Nat.div_div_eq_div_mul, Nat.mul_comm (2 ^ s), ← Nat.div_div_eq_div_mul]
  have hX' := hX.drop w
  rw [val_drop_div (X.drop w) hX' i (by simp; omega), List.drop_drop]
  congr 2
  have d1 := val_drop_eq X (w + i) (by omega)
  have d2 : val (X.drop (w + i + 1)) = (X.getD (w + i + 1) 0).toNat + 4294967296 * val (X.drop (w + i + 2)) := by
    by_cases hh : w + i + 1 < X.length
    · exact val_drop_eq X (w + i + 1) hh
    · rw [val_drop_ge _ _ (by omega), val_drop_ge _ _ (by omega), List.getD_eq_getElem?_getD, List.getElem?_eq_none (by omega)]; rfl
  rw [d1, d2, Nat.mul_add, ← Nat.add_assoc, ← Nat.mul_assoc, shr_limb hs, Nat.add_comm i w]
theorem ShrInv.last {X o : List Int} {n : Nat} (h : ShrInv X o (n / 32) (n % 32) o.length) (hX : Lim X) (ho : o.length = X.length - n / 32) (hw : n / 32 ≤ X.length) : val o = val X / 2 ^ n := by
  have e := h.eq
  have t := val_lt (hX.drop (n / 32))
  rw [List.length_drop, ← ho] at t
  rw [List.take_length, Nat.mod_eq_of_lt (Nat.lt_of_le_of_lt (Nat.div_le_self _ _) t)] at e
  rw [e, ← val_drop_div X hX _ hw, Nat.div_div_eq_div_mul, Nat.mul_comm, pow_shift]
theorem shr_zero {X : List Int} {n : Nat} (hX : Lim X) (hw : X.length ≤ n / 32) : val X / 2 ^ n = 0 := by
  have t := val_lt hX
  apply Nat.div_eq_of_lt
  refine Nat.lt_of_lt_of_le t ?_
  rw [pow_B]
  exact Nat.pow_le_pow_right (by omega) (by omega)
end Go.Proofs.Ytkidgeeedigkhaa
