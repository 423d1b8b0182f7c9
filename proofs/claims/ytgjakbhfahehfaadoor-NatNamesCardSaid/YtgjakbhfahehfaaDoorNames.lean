/- The walk of the statement NatNames. -/
import Derived.Test.YtgjakbhfahehfaaDoorDoor
import Derived.Test.YtgjakbhfahehfaaDoorShelf
namespace Go.Proofs.YtgjakbhfahehfaaDoor
open Go.RowKit

theorem dec4 : Lib.decDigits 4 = [52] := by rw [Lib.decDigits]; rfl
theorem itoa4 (w : World) : Calls Tryd.prog 16 #[.int .i64 4] w fun e w' => e = .returned (.string ⟨#[52]⟩) ∧ w' = w := by
  have h := Tryd.strconv_Itoa_small 4 (by omega) w
  rw [dec4] at h
  exact h

theorem error4 (w : World) : Calls Tryd.prog 6 #[.int .i64 4] w fun e w' => e = .returned (.string ⟨#[101, 114, 114, 111, 114, 32, 52]⟩) ∧ w' = w := by
  go_enter Tryd.func6, Tryd.ntmps6
  go_wp2_with fail
  refine (itoa4 w).mono ?_
  rintro e w' ⟨rfl, rfl⟩
  go_wp2
  go_ret
  exact ⟨rfl, rfl⟩

set_option maxHeartbeats 1000000 in
theorem natNames_law (w : World) : Calls Tryd.prog 3 #[] w fun e w' => e = .returned (.bool true) ∧ Below w.heap.size w w' := by
  go_enter Tryd.func3, Tryd.ntmps3
  go_wp2_with fail
  have h1 := (Row.lit1 w (x := 1) (by omega) (by omega)).alloc (.cells #[.int .u32 2] 26)
  have h2 := Row.lit1 (w.alloc (.cells #[.int .u32 1] 26)) (x := 2) (by omega) (by omega)
  rw [show (w.alloc (.cells #[.int .u32 1] 26)).heap.size = w.heap.size + 1 by simp] at h2
  have hB := ((Below.refl w.heap.size w).alloc (Nat.le_refl _) (.cells #[.int .u32 1] 26)).alloc (by simp) (.cells #[.int .u32 2] 26)
  refine (sub_under _ _ _ _ _ _ _ _ _ h1.toOwn.sl h2.toOwn.sl (by rw [val_one, val_one]; decide)).mono ?_
  rintro e w1 ⟨rfl, hd⟩
  have hB1 := below_drawn hB hd
  generalize (w.alloc (.cells #[.int .u32 1] 26)).alloc (.cells #[.int .u32 2] 26) = w0 at *
  go_wp2_with fail
  have h3 := Row.lit1 w1 (x := 1) (by omega) (by omega)
  have hB2 := hB1.alloc hB1.size (.cells #[.int .u32 1] 26)
  refine (div_nil _ _ _ _ _ h3.toOwn.sl).mono ?_
  rintro e w' ⟨rfl, rfl⟩
  go_wp2_with fail
  refine (error4 _).mono ?_
  rintro e w' ⟨rfl, rfl⟩
  go_wp2
  go_ret
  exact ⟨rfl, hB2⟩
end Go.Proofs.YtgjakbhfahehfaaDoor
