/- What NatNames calls: nat.Sub below nought, nat.Div by nought. -/
import Derived.Test.YtgjakbhfahehfaaDoorCmp
namespace Go.Proofs.YtgjakbhfahehfaaDoor
open Go.RowKit

set_option maxHeartbeats 400000 in
theorem sub_under (w : World) (A : Option Addr) (n c : Nat) (X : List Int) (A' : Option Addr) (n' c' : Nat) (Y : List Int) (hX : Sl w A n c X) (hY : Sl w A' n' c' Y) (hlt : val X < val Y) :
    Calls Tryd.prog 4 #[.slice A n c, .slice A' n' c'] w fun e w' => e = .returned (.tuple #[.slice none 0 0, .int .i64 10]) ∧ ∃ k, w' = w.drewN k := by
  have hg : cmpN (val X) (val Y) = -1 := cmpN_lt hlt
  have Hg := Lib.hid hg
  clear hg
  go_enter Tryd.func4, Tryd.ntmps4
  go_wp2_with fail
  refine (cmp_calls _ _ _ _ _ _ _ _ _ hX hY).mono ?_
  rintro e w1 ⟨rfl, hd⟩
  rw [Hg.out]
  go_wp2
  go_ret2
  exact ⟨rfl, hd⟩

set_option maxHeartbeats 400000 in
theorem div_nil (w : World) (A : Option Addr) (n c : Nat) (la : List Int) (ha : Sl w A n c la) :
    Calls Tryd.prog 5 #[.slice A n c, .slice none 0 0] w fun e w' => e = .returned (.tuple #[.slice none 0 0, .slice none 0 0, .int .i64 11]) ∧ w = w' := by
  have e0 := Lib.hid (show (digs (val [])).length = 0 by rw [show val [] = 0 from rfl, digs_zero]; rfl)
  go_enter Tryd.func5, Tryd.ntmps5
  go_wp2_with fail
  refine (trim_calls _ _ _ _ _ ha).mono ?_
  rintro e w' ⟨rfl, rfl⟩
  go_wp2_with fail
  refine (trim_calls _ _ _ _ _ (Sl.nil _ _ _)).mono ?_
  rintro e w' ⟨rfl, rfl⟩
  rw [e0.out]
  go_wp2
  go_ret3
  exact ⟨rfl, rfl⟩
end Go.Proofs.YtgjakbhfahehfaaDoor
