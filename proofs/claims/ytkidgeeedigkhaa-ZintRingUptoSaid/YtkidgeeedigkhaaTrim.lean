/- nat.trim -/
import Derived.Test.YtkidgeeedigkhaaMem
namespace Go.Proofs.Ytkidgeeedigkhaa
open Go.RowKit

set_option maxHeartbeats 400000 in
theorem trim_calls (w : World) (A : Option Addr) (n0 c : Nat) (l : List Int) (h : Sl w A n0 c l) :
    Calls Try.prog 82 #[.slice A n0 c] w fun e w' => e = .returned (.slice A (digs (val l)).length c) ∧ w = w' := by
  have hle := h.le
  obtain rfl := h.len
  have hsm := h.small
  go_enter Try.func82, Try.ntmps82
  go_wp2
  go_loop [0] (fun s => ∃ n, n ≤ l.length ∧ Hid (val (l.take n) = val l) ∧ s = .slice A n c) (fun s => match s with | .slice _ n _ => n | _ => 0)
  case atStart => exact ⟨l.length, Nat.le_refl _, by unfold Hid; rw [List.take_length], rfl⟩
  case round =>
    obtain ⟨n, hn, hv, rfl⟩ := hrel
    by_cases h0 : n = 0
    · subst h0
      have e0 : (digs (val l)).length = 0 := by rw [← hv.out]; simp [val, digs_zero]
      have E0 := Lib.hid e0
      clear e0
      go_wp2
      go_ret
      exact ⟨by rw [E0.out]; rfl, rfl⟩
    · obtain ⟨b, off, rfl, hc⟩ := h.at_ (i := n - 1) (by omega)
      have hp : 0 < n := by omega
      clear h0
      by_cases hz : l.getD (n - 1) 0 = 0
      · have e1 := val_take_pred hp hn hz
        have E1 := Lib.hid e1
        clear e1
        rw [hz] at hc
        clear hz
        go_wp2
        go_round
        case rel => exact ⟨n - 1, by omega, by unfold Hid; rw [E1.out]; exact hv, rfl⟩
        case measure => simp; omega
      · have e1 := len_of_top h.lim hp hn hv.out hz
        have E1 := Lib.hid e1
        clear e1
        generalize l.getD (n - 1) 0 = x at hc hz
        have hz' : (x == 0) = false := by simpa using hz
        clear hz
        go_wp2
        go_ret
        exact ⟨by rw [E1.out]; rfl, rfl⟩
end Go.Proofs.Ytkidgeeedigkhaa
