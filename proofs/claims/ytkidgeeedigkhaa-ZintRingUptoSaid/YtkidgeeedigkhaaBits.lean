/- nat.Bits -/
import Derived.Test.YtkidgeeedigkhaaCmp
import Derived.Test.YtkidgeeedigkhaaNum2
import Derived.Test.YtkidgeeedigkhaaShelf
namespace Go.Proofs.Ytkidgeeedigkhaa
open Go.RowKit

theorem len32_calls (x : Int) (w : World) (h0 : 0 ≤ x) (h1 : x < 4294967296) :
    Calls Try.prog 88 #[.int .u32 x] w fun e w' => e = .returned (.int .i64 (blen x.toNat)) ∧ w = w' :=
  (Try.bits_Len32 x w h0 (by omega)).mono fun _ _ ⟨h, h'⟩ => ⟨by rw [h, bitLen_blen _ (by omega)], h'.symm⟩

set_option maxHeartbeats 400000 in
theorem bits_calls (w : World) (A : Option Addr) (n c : Nat) (l : List Int) (h : Sl w A n c l) :
    Calls Try.prog 61 #[.slice A n c] w fun e w' => e = .returned (.int .i64 (blen (val l))) ∧ w = w' := by
  have hS := h.strip
  go_enter Try.func61, Try.ntmps61
  go_wp2_with fail
  refine (trim_calls _ _ _ _ _ h).mono ?_
  rintro e w' ⟨rfl, rfl⟩
  have hv := val_digs (val l)
  rcases Nat.eq_zero_or_pos (digs (val l)).length with h0 | h0
  · have e1 := Lib.hid (show blen (val l) = 0 by rw [← hv, List.eq_nil_of_length_eq_zero h0]; rfl)
    rw [h0]
    clear h0 hv
    go_wp2
    go_ret
    exact ⟨by rw [e1.out]; rfl, rfl⟩
  · obtain ⟨m, hm⟩ : ∃ m, (digs (val l)).length = m + 1 := ⟨_, (Nat.sub_add_cancel h0).symm⟩
    obtain ⟨b, off, rfl, hc⟩ := hS.at_ (i := m) (by omega)
    have hx := hS.lim.getD m
    have e1 := blen_top hS.lim hm (top_ne_zero hm)
    rw [hv] at e1
    rw [hm]
    have e1 := Lib.hid e1
    have hsm := hS.small
    have hbl : blen ((digs (val l)).getD m 0).toNat ≤ 32 := blen_le_iff.2 (by omega)
    clear hv h0
    generalize (digs (val l)).getD m 0 = x at *
    have hm' : m < 70368744177664 := by omega
    clear hm hsm
    go_wp2_with (go_at_call 88; refine (len32_calls _ _ hx.1 hx.2).mono ?_; rintro e w' ⟨rfl, rfl⟩)
    go_ret
    exact ⟨by rw [e1.out]; simp, rfl⟩

theorem sub2 (x b y : Int) (hx : 0 ≤ x ∧ x < 4294967296) (hb : 0 ≤ b ∧ b ≤ 1) (hy : 0 ≤ y ∧ y < 4294967296) :
    IntKind.u64.wrap (IntKind.u64.wrap (x - b) - y) % 4294967296 = (x - b - y) % 4294967296 ∧ IntKind.u64.wrap (IntKind.u64.wrap (x - b) - y) / 9223372036854775808 = if x - b - y < 0 then 1 else 0 := by
  rw [IntKind.wrap_u64, IntKind.wrap_u64]
  refine ⟨by omega, ?_⟩
  split <;> omega
theorem sub1 (x b : Int) (hx : 0 ≤ x ∧ x < 4294967296) (hb : 0 ≤ b ∧ b ≤ 1) :
    IntKind.u64.wrap (x - b) % 4294967296 = (x - b) % 4294967296 ∧ IntKind.u64.wrap (x - b) / 9223372036854775808 = if x - b < 0 then 1 else 0 := by
  rw [IntKind.wrap_u64]
  refine ⟨by omega, ?_⟩
  split <;> omega

/-- A number and an error number: what Sub and Shl hand back. -/
def RetNumE (N : Nat) (k : Int) (w : World) (e : Ending) (w' : World) : Prop := ∃ A c, e = .returned (.tuple #[.slice A (digs N).length c, .int .i64 k]) ∧ Own w' w.heap.size A (digs N).length c (digs N) ∧ Below w.heap.size w w'

end Go.Proofs.Ytkidgeeedigkhaa
