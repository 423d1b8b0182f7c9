/- nat.Add -/
import Derived.Test.YtkidgeeedigkhaaTrim
import Derived.Test.YtkidgeeedigkhaaNum2
namespace Go.Proofs.Ytkidgeeedigkhaa
open Go.RowKit

set_option maxHeartbeats 1000000 in
set_option maxRecDepth 100000 in
theorem add_calls (w : World) (A : Option Addr) (n c : Nat) (la : List Int) (A' : Option Addr) (n' c' : Nat) (lb : List Int) (ha : Sl w A n c la) (hb : Sl w A' n' c' lb) (hla : n < 70368744177664) (hlb : n' < 70368744177664) (N : Nat) (hN : val la + val lb = N) :
    Calls Try.prog 54 #[.slice A n c, .slice A' n' c'] w (RetNum N w) := by
  obtain rfl := ha.len
  obtain rfl := hb.len
  go_enter Try.func54, Try.ntmps54
  by_cases hlt : la.length < lb.length
  · go_wp2_with (at_make; refine make_u32 _ rfl _ _ rfl (lb.length + 1) _ _ _ _ rfl rfl ?_ ?_ ?_ ?_; (iterate 3 omega); intro w1 hR hB)
    generalize lb = X at *
    generalize la = Y at *
    generalize A' = AX at *
    generalize A = AY at *
    generalize c' = cX at *
    generalize c = cY at *
    have hX := hb
    have hY := ha
    have hYX : Y.length ≤ X.length := by omega
    have hXs := hlb
    clear hlt ha hb hla hlb
    have HN := Lib.hid ((Nat.add_comm _ _).trans hN)
    clear hN
    go_loopw [6, 21] (fun cv iv wr => ∃ (k : Nat) (o : List Int) (cy : Int), k ≤ X.length ∧ cv = .int .u64 cy ∧ iv = .int .i64 k ∧ Hid (AddInv X Y o k cy) ∧ 0 ≤ cy ∧ cy ≤ 1 ∧ Row wr w.heap.size w.heap.size (X.length + 1) (X.length + 1) o ∧ Below w.heap.size w wr) (fun _ iv _ => X.length - (intOf iv).toNat)
    case atStart => exact ⟨0, _, 0, Nat.zero_le _, rfl, rfl, ⟨by omega, by omega, by simp [val]⟩, by omega, by omega, hR, hB⟩
    case round =>
      clear hR hB
      obtain ⟨k, o, cy, hk, rfl, rfl, hinv, hc0, hc1, hR, hB⟩ := hrel
      by_cases hlt : k < X.length
      · obtain ⟨b, off, rfl, hcX⟩ := (hX.below hB).at_ hlt
        have hcO := hR.cell k (by omega)
        have hfO := hR.frozen k
        have hsz := hR.lt
        have hstep := hinv.out.step hX.lim hY.lim (show k < o.length by rw [hR.len]; omega)
        have hx := hX.lim.getD k
        have hy := hY.lim.getD k
        have hZ := Row.stored hR k (x := (cy + X.getD k 0 + Y.getD k 0) % 4294967296) (by omega) (by omega)
        have Hstep := Lib.hid hstep
        have hB2 := hB.setCell (p := ⟨w.heap.size, k, none⟩) (Nat.le_refl _) (.int .u32 ((cy + X.getD k 0 + Y.getD k 0) % 4294967296))
        clear hstep
        by_cases hky : k < Y.length
        · obtain ⟨b', off', rfl, hcY⟩ := (hY.below hB).at_ hky
          generalize X.getD k 0 = x at *
          generalize Y.getD k 0 = y at *
          go_wp2
          go_roundw
          case rel => exact ⟨k + 1, _, _, by omega, rfl, by go_num, Hstep, by omega, by omega, hZ, hB2⟩
          case measure => simp [intOf]; omega
        · have hy0 : Y.getD k 0 = 0 := by rw [List.getD_eq_getElem?_getD, List.getElem?_eq_none (by omega)]; rfl
          rw [hy0, Int.add_zero] at hZ Hstep hB2
          clear hy hy0
          generalize X.getD k 0 = x at *
          go_wp2
          go_roundw
          case rel => exact ⟨k + 1, _, _, by omega, rfl, by go_num, Hstep, by omega, by omega, hZ, hB2⟩
          case measure => simp [intOf]; omega
      · obtain rfl : k = X.length := by omega
        have hcO := hR.cell X.length (by omega)
        have hfO := hR.frozen X.length
        have hsz := hR.lt
        have hZ := Row.stored hR X.length (x := cy) hc0 (by omega)
        have hlast := (hinv.out.last hR.len rfl hYX).trans HN.out
        have Hlast := Lib.hid hlast
        have hB2 := hB.setCell (p := ⟨w.heap.size, X.length, none⟩) (Nat.le_refl _) (.int .u32 cy)
        clear hlast
        go_wp2_with (go_at_call 82; refine (trim_calls _ _ _ _ _ hZ.toOwn.sl).mono ?_; rintro e w' ⟨rfl, rfl⟩)
        rw [Hlast.out]
        go_ret
        have hO := hZ.toOwn.strip
        rw [Hlast.out] at hO
        exact ⟨_, _, rfl, hO, hB2⟩
  · go_wp2_with (at_make; refine make_u32 _ rfl _ _ rfl (la.length + 1) _ _ _ _ rfl rfl ?_ ?_ ?_ ?_; (iterate 3 omega); intro w1 hR hB)
    generalize la = X at *
    generalize lb = Y at *
    generalize A = AX at *
    generalize A' = AY at *
    generalize c = cX at *
    generalize c' = cY at *
    have hX := ha
    have hY := hb
    have hYX : Y.length ≤ X.length := by omega
    have hXs := hla
    have HN := Lib.hid hN
    clear hlt ha hb hla hlb hN
    go_loopw [6, 21] (fun cv iv wr => ∃ (k : Nat) (o : List Int) (cy : Int), k ≤ X.length ∧ cv = .int .u64 cy ∧ iv = .int .i64 k ∧ Hid (AddInv X Y o k cy) ∧ 0 ≤ cy ∧ cy ≤ 1 ∧ Row wr w.heap.size w.heap.size (X.length + 1) (X.length + 1) o ∧ Below w.heap.size w wr) (fun _ iv _ => X.length - (intOf iv).toNat)
    case atStart => exact ⟨0, _, 0, Nat.zero_le _, rfl, rfl, ⟨by omega, by omega, by simp [val]⟩, by omega, by omega, hR, hB⟩
    case round =>
      clear hR hB
      obtain ⟨k, o, cy, hk, rfl, rfl, hinv, hc0, hc1, hR, hB⟩ := hrel
      by_cases hlt : k < X.length
      · obtain ⟨b, off, rfl, hcX⟩ := (hX.below hB).at_ hlt
        have hcO := hR.cell k (by omega)
        have hfO := hR.frozen k
        have hsz := hR.lt
        have hstep := hinv.out.step hX.lim hY.lim (show k < o.length by rw [hR.len]; omega)
        have hx := hX.lim.getD k
        have hy := hY.lim.getD k
        have hZ := Row.stored hR k (x := (cy + X.getD k 0 + Y.getD k 0) % 4294967296) (by omega) (by omega)
        have Hstep := Lib.hid hstep
        have hB2 := hB.setCell (p := ⟨w.heap.size, k, none⟩) (Nat.le_refl _) (.int .u32 ((cy + X.getD k 0 + Y.getD k 0) % 4294967296))
        clear hstep
        by_cases hky : k < Y.length
        · obtain ⟨b', off', rfl, hcY⟩ := (hY.below hB).at_ hky
          generalize X.getD k 0 = x at *
          generalize Y.getD k 0 = y at *
          go_wp2
          go_roundw
          case rel => exact ⟨k + 1, _, _, by omega, rfl, by go_num, Hstep, by omega, by omega, hZ, hB2⟩
          case measure => simp [intOf]; omega
        · have hy0 : Y.getD k 0 = 0 := by rw [List.getD_eq_getElem?_getD, List.getElem?_eq_none (by omega)]; rfl
          rw [hy0, Int.add_zero] at hZ Hstep hB2
          clear hy hy0
          generalize X.getD k 0 = x at *
          go_wp2
          go_roundw
          case rel => exact ⟨k + 1, _, _, by omega, rfl, by go_num, Hstep, by omega, by omega, hZ, hB2⟩
          case measure => simp [intOf]; omega
      · obtain rfl : k = X.length := by omega
        have hcO := hR.cell X.length (by omega)
        have hfO := hR.frozen X.length
        have hsz := hR.lt
        have hZ := Row.stored hR X.length (x := cy) hc0 (by omega)
        have hlast := (hinv.out.last hR.len rfl hYX).trans HN.out
        have Hlast := Lib.hid hlast
        have hB2 := hB.setCell (p := ⟨w.heap.size, X.length, none⟩) (Nat.le_refl _) (.int .u32 cy)
        clear hlast
        go_wp2_with (go_at_call 82; refine (trim_calls _ _ _ _ _ hZ.toOwn.sl).mono ?_; rintro e w' ⟨rfl, rfl⟩)
        rw [Hlast.out]
        go_ret
        have hO := hZ.toOwn.strip
        rw [Hlast.out] at hO
        exact ⟨_, _, rfl, hO, hB2⟩
end Go.Proofs.Ytkidgeeedigkhaa
