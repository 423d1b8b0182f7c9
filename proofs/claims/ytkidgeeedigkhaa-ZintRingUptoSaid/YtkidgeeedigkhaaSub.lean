/- nat.less, nat.Sub -/
import Derived.Test.YtkidgeeedigkhaaBits
namespace Go.Proofs.Ytkidgeeedigkhaa
open Go.RowKit

set_option maxHeartbeats 1000000 in
theorem less_calls (w : World) (A : Option Addr) (n c : Nat) (X : List Int) (A' : Option Addr) (n' c' : Nat) (Y : List Int) (hX : Sl w A n c X) (hY : Sl w A' n' c' Y) (hYX : n' ≤ n) (hle : val Y ≤ val X) :
    Calls Try.prog 83 #[.slice A n c, .slice A' n' c'] w (RetNum (val X - val Y) w) := by
  have hsm := hX.small
  obtain rfl := hX.len
  obtain rfl := hY.len
  go_enter Try.func83, Try.ntmps83
  go_wp2_with (at_make; refine make_u32 _ rfl _ _ rfl X.length _ _ _ _ rfl rfl ?_ ?_ ?_ ?_; (iterate 3 omega); intro w1 hR hB)
  go_loopw [6, 14] (fun cv iv wr => ∃ (k : Nat) (o : List Int) (cy : Int), k ≤ X.length ∧ cv = .int .u64 cy ∧ iv = .int .i64 k ∧ Hid (LessInv X Y o k cy) ∧ 0 ≤ cy ∧ cy ≤ 1 ∧ Row wr w.heap.size w.heap.size X.length X.length o ∧ Below w.heap.size w wr) (fun _ iv _ => X.length - (intOf iv).toNat)
  case atStart => exact ⟨0, _, 0, Nat.zero_le _, rfl, rfl, ⟨by omega, by omega, by simp [val]⟩, by omega, by omega, hR, hB⟩
  case round =>
    clear hR hB
    obtain ⟨k, o, cy, hk, rfl, rfl, hinv, hc0, hc1, hR, hB⟩ := hrel
    by_cases hlt : k < X.length
    · obtain ⟨b, off, rfl, hcX⟩ := (hX.below hB).at_ hlt
      have hcO := hR.cell k (by omega)
      have hfO := hR.frozen k
      have hsz := hR.lt
      have hstep := hinv.out.step hX.lim hY.lim (show k < o.length by rw [hR.len]; omega)
      have hx := hX.lim.getD k
      have hy := hY.lim.getD k
      have hZ := Row.stored hR k (x := (X.getD k 0 - cy - Y.getD k 0) % 4294967296) (by omega) (by omega)
      have Hstep := Lib.hid hstep
      have hB2 := hB.setCell (p := ⟨w.heap.size, k, none⟩) (Nat.le_refl _) (.int .u32 ((X.getD k 0 - cy - Y.getD k 0) % 4294967296))
      clear hstep
      by_cases hky : k < Y.length
      · obtain ⟨b', off', rfl, hcY⟩ := (hY.below hB).at_ hky
        generalize X.getD k 0 = x at *
        generalize Y.getD k 0 = y at *
        obtain ⟨e1, e2⟩ := sub2 x cy y (by omega) (by omega) (by omega)
        rw [← e1] at hZ hB2
        rw [← e1, ← e2] at Hstep
        clear e1 e2
        go_wp2
        go_roundw
        case rel => exact ⟨k + 1, _, _, by omega, rfl, by go_num, Hstep, by have := Hstep.out.b0; omega, by have := Hstep.out.b1; omega, hZ, hB2⟩
        case measure => simp [intOf] <;> omega
      · have hy0 : Y.getD k 0 = 0 := by rw [List.getD_eq_getElem?_getD, List.getElem?_eq_none (by omega)]; rfl
        rw [hy0, Int.sub_zero] at hZ Hstep hB2
        clear hy hy0
        generalize X.getD k 0 = x at *
        obtain ⟨e1, e2⟩ := sub1 x cy (by omega) (by omega)
        rw [← e1] at hZ hB2
        rw [← e1, ← e2] at Hstep
        clear e1 e2
        go_wp2
        go_roundw
        case rel => exact ⟨k + 1, _, _, by omega, rfl, by go_num, Hstep, by have := Hstep.out.b0; omega, by have := Hstep.out.b1; omega, hZ, hB2⟩
        case measure => simp [intOf] <;> omega
    · obtain rfl : k = X.length := by omega
      have hlast := hinv.out.last hR.len rfl hYX hR.lim hle
      have Hlast := Lib.hid hlast
      clear hlast
      go_wp2_with (go_at_call 82; refine (trim_calls _ _ _ _ _ hR.toOwn.sl).mono ?_; rintro e w' ⟨rfl, rfl⟩)
      rw [Hlast.out]
      go_ret
      have hO := hR.toOwn.strip
      rw [Hlast.out] at hO
      exact ⟨_, _, rfl, hO, hB⟩

set_option maxHeartbeats 400000 in
theorem sub_calls (w : World) (A : Option Addr) (n c : Nat) (X : List Int) (A' : Option Addr) (n' c' : Nat) (Y : List Int) (hX : Sl w A n c X) (hY : Sl w A' n' c' Y) (hle : val Y ≤ val X) :
    Calls Try.prog 56 #[.slice A n c, .slice A' n' c'] w (RetNumE (val X - val Y) 0 w) := by
  have hc0 : 0 ≤ cmpN (val X) (val Y) := by unfold cmpN; split <;> (try split) <;> omega
  generalize hg : cmpN (val X) (val Y) = r at hc0
  have Hg := Lib.hid hg
  clear hg
  go_enter Try.func56, Try.ntmps56
  go_wp2_with fail
  refine (cmp_calls _ _ _ _ _ _ _ _ _ hX hY).mono ?_
  rintro e w1 ⟨rfl, hd⟩
  rw [Hg.out]
  have hX1 := hX.drawn hd
  have hY1 := hY.drawn hd
  have hB := below_drawn (Below.refl w.heap.size w) hd
  go_wp2_with fail
  refine (trim_calls _ _ _ _ _ hX1).mono ?_
  rintro e w' ⟨rfl, rfl⟩
  go_wp2_with fail
  refine (trim_calls _ _ _ _ _ hY1).mono ?_
  rintro e w' ⟨rfl, rfl⟩
  go_wp2_with fail
  refine (less_calls _ _ _ _ _ _ _ _ _ hX1.strip hY1.strip (digs_len_mono hle) (by rw [val_digs, val_digs]; exact hle)).mono ?_
  rintro e w2 ⟨A1, c1, rfl, hO, hB2⟩
  go_wp2
  rw [val_digs, val_digs] at hO ⊢
  go_ret2
  exact ⟨_, _, rfl, hO.base hB.size, below_step hB hB2⟩

set_option maxHeartbeats 400000 in
theorem sub_below (w : World) (A : Option Addr) (n c : Nat) (X : List Int) (A' : Option Addr) (n' c' : Nat) (Y : List Int) (hX : Sl w A n c X) (hY : Sl w A' n' c' Y) (hlt : val X < val Y) :
    Calls Try.prog 56 #[.slice A n c, .slice A' n' c'] w (RetNumE 0 10 w) := by
  have hg : cmpN (val X) (val Y) = -1 := cmpN_lt hlt
  have Hg := Lib.hid hg
  clear hg
  go_enter Try.func56, Try.ntmps56
  go_wp2_with fail
  refine (cmp_calls _ _ _ _ _ _ _ _ _ hX hY).mono ?_
  rintro e w1 ⟨rfl, hd⟩
  rw [Hg.out]
  go_wp2
  go_ret2
  refine ⟨none, 0, by rw [digs_zero]; rfl, ?_, below_drawn (Below.refl w.heap.size w) hd⟩
  rw [digs_zero]
  exact Own.nil _ _
end Go.Proofs.Ytkidgeeedigkhaa
