/- nat.Shl, nat.Shr -/
import Derived.Test.YtgjakbhfahehfaaShift
namespace Go.Proofs.Ytgjakbhfahehfaa
open Go.RowKit

set_option maxHeartbeats 400000 in
theorem Shl_calls (w : World) (A : Option Addr) (n c : Nat) (la : List Int) (m : Nat) (h : Sl w A n c la) (hm : val la ≠ 0 → m + blen (val la) ≤ 1048576) (hm2 : m < 70368744177664) (hn : n ≤ 35184372088829) :
    Calls Try.prog 23 #[.slice A n c, .int .i64 m] w (RetNumE (val la * 2 ^ m) 0 w) := by
  have hsh := Lib.hid (shl_calls w A n c la m h (by omega))
  by_cases h0 : val la = 0
  · have e1 := Lib.hid (show blen (val la) = 0 by rw [h0]; rfl)
    clear h0 hm
    go_enter Try.func23, Try.ntmps23
    go_wp2_with fail
    refine (bits_calls _ _ _ _ _ h).mono ?_
    rintro e w1 ⟨rfl, rfl⟩
    rw [e1.out]
    go_wp2_with fail
    refine hsh.out.mono ?_
    rintro e w2 ⟨A1, c1, rfl, hO, hB⟩
    go_wp2
    go_ret2
    exact ⟨_, _, rfl, hO, hB⟩
  · have hm3 := hm h0
    have hbp := blen_pos (Nat.pos_of_ne_zero h0)
    clear h0 hm
    have hd : decide (1048576 - (blen (val la) : Int) < (m : Int)) = false := by simp; omega
    have hd2 : decide (0 < blen (val la)) = true := by simp; omega
    go_enter Try.func23, Try.ntmps23
    go_wp2_with fail
    refine (bits_calls _ _ _ _ _ h).mono ?_
    rintro e w1 ⟨rfl, rfl⟩
    go_wp2_with fail
    refine hsh.out.mono ?_
    rintro e w2 ⟨A1, c1, rfl, hO, hB⟩
    go_wp2
    go_ret2
    exact ⟨_, _, rfl, hO, hB⟩

set_option maxHeartbeats 400000 in
theorem Shr_calls (w : World) (A : Option Addr) (n c : Nat) (la : List Int) (m : Nat) (h : Sl w A n c la) (hm : m < 9223372036854775808) :
    Calls Try.prog 25 #[.slice A n c, .int .i64 m] w (RetNumE (val la / 2 ^ m) 0 w) := by
  go_enter Try.func25, Try.ntmps25
  go_wp2_with fail
  refine (shr_calls _ _ _ _ _ m h hm).mono ?_
  rintro e w2 ⟨A1, c1, rfl, hO, hB⟩
  go_wp2
  go_ret2
  exact ⟨_, _, rfl, hO, hB⟩

theorem Shl_long (w : World) (A : Option Addr) (n c : Nat) (la : List Int) (m : Nat) (h : Sl w A n c la) (h0 : val la ≠ 0) (hm : 1048576 < m + blen (val la)) (hn : n ≤ 35184372088829) :
    Calls Try.prog 23 #[.slice A n c, .int .i64 m] w fun e w' => e = .returned (.tuple #[.slice none 0 0, .int .i64 2]) ∧ w' = w := by
  have hbp := blen_pos (Nat.pos_of_ne_zero h0)
  have hbl : blen (val la) ≤ 32 * n := blen_le_iff.2 (by rw [← pow_B, ← h.len]; exact val_lt h.lim)
  clear h0
  have hd : decide (1048576 - (blen (val la) : Int) < (m : Int)) = true := by simp; omega
  have hd2 : decide (0 < blen (val la)) = true := by simp; omega
  go_enter Try.func23, Try.ntmps23
  go_wp2_with fail
  refine (bits_calls _ _ _ _ _ h).mono ?_
  rintro e w1 ⟨rfl, rfl⟩
  go_wp2
  go_ret2
  exact ⟨rfl, rfl⟩

/-- Whatever a and the shift by less than 256 bits: Shl answers. -/
theorem Shl_any (w : World) (A : Option Addr) (n c : Nat) (la : List Int) (m : Nat) (h : Sl w A n c la) (hm : m ≤ 255) (hn : n ≤ 35184372088829) :
    Calls Try.prog 23 #[.slice A n c, .int .i64 m] w fun e w' => ∃ A2 n2 c2 k, e = .returned (.tuple #[.slice A2 n2 c2, .int .i64 k]) ∧ Below w.heap.size w w' := by
  by_cases h0 : val la ≠ 0 ∧ 1048576 < m + blen (val la)
  · refine (Shl_long w A n c la m h h0.1 h0.2 hn).mono ?_
    rintro e w' ⟨rfl, rfl⟩
    exact ⟨_, _, _, _, rfl, Below.refl _ _⟩
  · refine (Shl_calls w A n c la m h (fun h1 => by omega) (by omega) hn).mono ?_
    rintro e w' ⟨A2, c2, rfl, _, hB⟩
    exact ⟨_, _, _, _, rfl, hB⟩
end Go.Proofs.Ytgjakbhfahehfaa
