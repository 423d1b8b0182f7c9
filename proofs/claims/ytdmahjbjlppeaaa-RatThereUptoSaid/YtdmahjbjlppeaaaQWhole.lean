
/- law03.whole: equal numbers in their one form. -/
import Derived.Test.YtdmahjbjlppeaaaQ3
namespace Go.Proofs.Ytdmahjbjlppeaaa
open Go.RowKit

set_option maxHeartbeats 1000000 in
set_option maxRecDepth 8000 in
theorem whole_calls (w : World) (neg : Bool) (A : Option Addr) (n c : Nat) (A' : Option Addr) (c' : Nat) (l : List Int) (ha : Sl w A n c l) (hb : Sl w A' n c' l) :
    Calls Try.prog 35 #[.agg #[.bool neg, .slice A n c], .agg #[.bool neg, .slice A' n c']] w fun e w' => e = .returned (.bool true) ∧ Below w.heap.size w w' := by
  have hsm := ha.small
  have hB0 : Below w.heap.size w (boxed2 w neg (.slice A n c) neg (.slice A' n c')) := ((Below.refl _ _).alloc (Nat.le_refl _) _).alloc (by simp) _
  go_enter Try.func35, Try.ntmps35
  go_wp2
  go_loopw [5] (fun iv wr => ∃ k : Nat, k ≤ n ∧ iv = .int .i64 k ∧ ∃ d, wr = (boxed2 w neg (.slice A n c) neg (.slice A' n c')).drewN d) (fun iv _ => n - (intOf iv).toNat)
  case atStart => exact ⟨0, Nat.zero_le _, rfl, 0, rfl⟩
  case round =>
    obtain ⟨k, hk, rfl, hd⟩ := hrel
    have hBr := below_drawn hB0 hd
    obtain ⟨q0, q1, q2, q3⟩ := Two.of2 (below_drawn (Below.refl _ _) hd)
    by_cases hlt : k < n
    · obtain ⟨b, off, rfl, hc⟩ := (ha.below hBr).at_ hlt
      obtain ⟨b', off', rfl, hc'⟩ := (hb.below hBr).at_ hlt
      replace hd := Lib.hid hd
      generalize l.getD k 0 = x at *
      go_wp2
      go_quiet (fail)
      go_wp2
      go_roundw
      case rel => exact ⟨k + 1, by omega, by go_num, drawn_step hd.out _⟩
      case measure => simp [intOf] <;> omega
    · obtain rfl : k = n := by omega
      go_wp2
      go_ret
      exact ⟨rfl, hBr⟩
theorem whole_k {w : World} {x y : Value} {z u : Int} (h : Cz w x z) (h' : Cz w y u) (e : z = u) : Calls Try.prog 35 #[x, y] w (Ret (.is (.bool true)) w) := by
  subst e
  obtain ⟨A, c, rfl, hS⟩ := h
  obtain ⟨A', c', rfl, hS'⟩ := h'
  exact (whole_calls w _ A _ c A' c' _ hS hS').mono fun _ _ h => ret_is h
end Go.Proofs.Ytdmahjbjlppeaaa
