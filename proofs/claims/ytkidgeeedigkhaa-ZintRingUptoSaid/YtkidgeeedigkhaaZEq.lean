/- law02.eq: equal numbers in their one form. -/
import Derived.Test.YtkidgeeedigkhaaZSub
namespace Go.Proofs.Ytkidgeeedigkhaa
open Go.RowKit

/-- Two numbers boxed: what the cells hold, in whatever world lies above. -/
def boxed2 (w : World) (na : Bool) (va : Value) (nb : Bool) (vb : Value) : World :=
  (w.alloc (.cells #[.bool na, va] 24)).alloc (.cells #[.bool nb, vb] 24)
theorem Two.of2 {w v : World} {na nb : Bool} {va vb : Value} (h : Below (boxed2 w na va nb vb).heap.size (boxed2 w na va nb vb) v) : Two w v na va nb vb := by
  have a1 := Zb.new w na va
  have a2 := Zb.new (w.alloc (.cells #[.bool na, va] 24)) nb vb
  rw [show (w.alloc (.cells #[.bool na, va] 24)).heap.size = w.heap.size + 1 by simp] at a2
  have e : (boxed2 w na va nb vb).heap.size = w.heap.size + 2 := size2 ..
  have b1 := (a1.below ((Below.refl _ _).alloc (Nat.le_refl _) (.cells #[.bool nb, vb] 24)) (by simp)).below h (by omega)
  have b2 := a2.below h (by omega)
  exact ⟨b1.cell0, b1.cell1, b2.cell0, b2.cell1⟩

set_option maxHeartbeats 1000000 in
set_option maxRecDepth 8000 in
theorem eq_calls (w : World) (neg : Bool) (A : Option Addr) (n c : Nat) (A' : Option Addr) (c' : Nat) (l : List Int) (ha : Sl w A n c l) (hb : Sl w A' n c' l) :
    Calls Try.prog 12 #[.agg #[.bool neg, .slice A n c], .agg #[.bool neg, .slice A' n c']] w fun e w' => e = .returned (.bool true) ∧ Below w.heap.size w w' := by
  have hsm := ha.small
  have hB0 : Below w.heap.size w (boxed2 w neg (.slice A n c) neg (.slice A' n c')) := ((Below.refl _ _).alloc (Nat.le_refl _) _).alloc (by simp) _
  go_enter Try.func12, Try.ntmps12
  go_wp2
  go_loopw [5] (fun iv wr => ∃ k : Nat, k ≤ n ∧ iv = .int .i64 k ∧ ∃ d, wr = (boxed2 w neg (.slice A n c) neg (.slice A' n c')).drewN d) (fun iv _ => n - (intOf iv).toNat)
  case atStart => exact ⟨0, Nat.zero_le _, rfl, 0, rfl⟩
  case round =>
    obtain ⟨k, hk, rfl, hd⟩ := hrel
    have hBr := below_drawn hB0 hd
    obtain ⟨q0, q1, q2, q3⟩ := Two.of2 (below_drawn (Below.refl _ _) hd)
    by_cases hlt : k < n
    · obtain ⟨b, off, rfl, hc⟩ := (ha.below hBr).at_ hlt
      obtain ⟨b', off', rfl, hc'⟩ := (hb.below hBr).at_ hlt
      replace hd := Lib.hid hd
      generalize l.getD k 0 = x at *
      go_wp2
      go_quiet (fail)
      go_wp2
      go_roundw
      case rel => exact ⟨k + 1, by omega, by go_num, drawn_step hd.out _⟩
      case measure => simp [intOf] <;> omega
    · obtain rfl : k = n := by omega
      go_wp2
      go_ret
      exact ⟨rfl, hBr⟩
end Go.Proofs.Ytkidgeeedigkhaa
