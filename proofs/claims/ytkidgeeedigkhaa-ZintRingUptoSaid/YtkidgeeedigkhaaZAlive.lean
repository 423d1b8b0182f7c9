/- law02.alive -/
import Derived.Test.YtkidgeeedigkhaaZOf
namespace Go.Proofs.Ytkidgeeedigkhaa
open Go.RowKit

/-- zint.Mul where both are in their one form. -/
theorem zmul_z (w : World) (y z : Int) (A : Option Addr) (c : Nat) (A' : Option Addr) (c' : Nat) (ha : Sl w A (digs y.natAbs).length c (digs y.natAbs)) (hb : Sl w A' (digs z.natAbs).length c' (digs z.natAbs)) (hs : (digs y.natAbs).length + (digs z.natAbs).length ≤ 70368744177664) :
    Calls Try.prog 16 #[.agg #[.bool (decide (y < 0)), .slice A (digs y.natAbs).length c], .agg #[.bool (decide (z < 0)), .slice A' (digs z.natAbs).length c']] w (RetZ (y * z) w) := by
  have h := zmul_calls w (decide (y < 0)) A _ c _ (decide (z < 0)) A' _ c' _ ha hb hs
  rw [val_digs, val_digs] at h
  have e : zof (decide (y < 0) != decide (z < 0)) (y.natAbs * z.natAbs) = y * z := by
    rw [← Int.natAbs_mul]
    unfold zof
    rcases Int.lt_trichotomy y 0 with h1 | h1 | h1 <;> rcases Int.lt_trichotomy z 0 with h2 | h2 | h2
    · have := Int.mul_pos_of_neg_of_neg h1 h2
      simp [h1, h2]; omega
    · subst h2; simp [h1]
    · have := Int.mul_neg_of_neg_of_pos h1 h2
      have h3 : ¬ z < 0 := by omega
      simp [h1, h3]; omega
    · subst h1; simp
    · subst h1; simp
    · subst h1; simp
    · have := Int.mul_neg_of_pos_of_neg h1 h2
      have h3 : ¬ y < 0 := by omega
      simp [h2, h3]; omega
    · subst h2; simp
    · have := Int.mul_pos h1 h2
      have h3 : ¬ y < 0 := by omega
      have h4 : ¬ z < 0 := by omega
      simp [h3, h4]; omega
  rwa [e] at h
theorem dec42 : ztxt (-42) = ⟨#[45, 52, 50]⟩ := by
  have : decs 42 = [52, 50] := by
    unfold decs
    rw [if_neg (by omega), decR_pos (by omega), decR_pos (by omega), show 42 / 10 / 10 = 0 from rfl, decR_zero]
    rfl
  unfold ztxt
  rw [if_pos (by omega), show (-42 : Int).natAbs = 42 from rfl, this]
  rfl

theorem seven : ∃ y : Int, y = -7 ∧ ∀ v, Calls Try.prog 42 #[.int .i64 (-7)] v (RetZ y v) := ⟨-7, rfl, fun v => of_calls v (-7) (by omega) (by omega)⟩
theorem six : ∃ y : Int, y = 6 ∧ ∀ v, Calls Try.prog 42 #[.int .i64 6] v (RetZ y v) := ⟨6, rfl, fun v => of_calls v 6 (by omega) (by omega)⟩

set_option maxHeartbeats 1000000 in
set_option maxRecDepth 8000 in
theorem alive_calls (w : World) : Calls Try.prog 11 #[] w fun e w' => e = .returned (.bool true) ∧ Below w.heap.size w w' := by
  obtain ⟨y, hy, h7⟩ := seven
  obtain ⟨z, hz, h6⟩ := six
  have d7 : (digs y.natAbs).length ≤ 1 := by rw [hy]; exact digs_len_le (by decide)
  have d6 : (digs z.natAbs).length ≤ 1 := by rw [hz]; exact digs_len_le (by decide)
  have d42 : (digs (y * z).natAbs).length ≤ 1 := by rw [hy, hz]; exact digs_len_le (by decide)
  have ht : ∀ v A c, Sl v A (digs (y * z).natAbs).length c (digs (y * z).natAbs) → Calls Try.prog 52 #[.agg #[.bool (decide (y * z < 0)), .slice A (digs (y * z).natAbs).length c]] v fun e w' => e = .returned (.string ⟨#[45, 52, 50]⟩) ∧ Below v.heap.size v w' := fun v A c h => by
    have := ztext_calls v (decide (y * z < 0)) A _ c _ h (by omega)
    rw [val_digs, zof_z, show y * z = -42 by rw [hy, hz]; rfl, dec42] at this
    rw [show y * z = -42 by rw [hy, hz]; rfl]
    exact this
  replace ht := Lib.hid ht
  replace h7 := Lib.hid h7
  replace h6 := Lib.hid h6
  clear hy hz d42
  go_enter Try.func11, Try.ntmps11
  go_wp2_with fail
  refine (h7.out _).mono ?_
  rintro e w1 ⟨A1, c1, rfl, hO1, hB1⟩
  go_wp2_with fail
  refine (h6.out _).mono ?_
  rintro e w2 ⟨A2, c2, rfl, hO2, hB2⟩
  go_wp2_with fail
  refine (zmul_z _ _ _ _ _ _ _ (hO1.below hB2).sl hO2.sl (by omega)).mono ?_
  rintro e w3 ⟨A3, c3, rfl, hO3, hB3⟩
  have hBt := below_step (below_step hB1 hB2) hB3
  go_wp2_with fail
  refine (ht.out _ _ _ hO3.sl).mono ?_
  rintro e w4 ⟨rfl, hB4⟩
  go_wp2
  go_ret
  exact ⟨rfl, below_step hBt hB4⟩
end Go.Proofs.Ytkidgeeedigkhaa
