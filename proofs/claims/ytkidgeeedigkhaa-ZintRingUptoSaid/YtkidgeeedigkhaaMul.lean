/- nat.Mul -/
import Derived.Test.YtkidgeeedigkhaaBits
namespace Go.Proofs.Ytkidgeeedigkhaa
open Go.RowKit

set_option maxHeartbeats 2000000 in
theorem mul_calls (w : World) (A : Option Addr) (n c : Nat) (la : List Int) (A' : Option Addr) (n' c' : Nat) (lb : List Int) (ha : Sl w A n c la) (hb : Sl w A' n' c' lb) (hs : n + n' ≤ 70368744177664) :
    Calls Try.prog 57 #[.slice A n c, .slice A' n' c'] w (RetNum (val la * val lb) w) := by
  have hX := ha.strip
  have hY := hb.strip
  have eX := val_digs (val la)
  have eY := val_digs (val lb)
  have hsX := digs_val_len ha.lim
  have hsY := digs_val_len hb.lim
  have hsm : (digs (val la)).length + (digs (val lb)).length ≤ 70368744177664 := by have := ha.len; have := hb.len; omega
  clear hsX hsY hs
  go_enter Try.func57, Try.ntmps57
  go_wp2_with fail
  refine (trim_calls _ _ _ _ _ ha).mono ?_
  rintro e w' ⟨rfl, rfl⟩
  go_wp2_with fail
  refine (trim_calls _ _ _ _ _ hb).mono ?_
  rintro e w' ⟨rfl, rfl⟩
  clear ha hb
  generalize val la = a at *
  generalize val lb = b at *
  generalize digs a = X at *
  generalize digs b = Y at *
  subst eX eY
  go_wp2_with (at_make; refine make_u32 _ rfl _ _ rfl (X.length + Y.length) _ _ _ _ rfl rfl ?_ ?_ ?_ ?_; (iterate 3 omega); intro w1 hR hB)
  go_loopw [21] (fun iv wr => ∃ (i : Nat) (o : List Int), i ≤ X.length ∧ iv = .int .i64 i ∧ Hid (val (o.take (i + Y.length)) = val (X.take i) * val Y) ∧ Row wr w.heap.size w.heap.size (X.length + Y.length) (X.length + Y.length) o ∧ Below w.heap.size w wr) (fun iv _ => X.length - (intOf iv).toNat)
  case atStart => exact ⟨0, _, Nat.zero_le _, rfl, by unfold Hid; rw [List.take_replicate, val_replicate]; simp [val], hR, hB⟩
  case round =>
    clear hR hB
    obtain ⟨i, o, hi, rfl, hinv, hR, hB⟩ := hrel
    by_cases hlt : i < X.length
    · go_wp2
      go_loopw [7, 26] (fun cv jv wq => ∃ (j : Nat) (o : List Int) (cy : Int), j ≤ Y.length ∧ cv = .int .u64 cy ∧ jv = .int .i64 j ∧ Hid (MulInv X Y o i j cy) ∧ 0 ≤ cy ∧ cy < 4294967296 ∧ Row wq w.heap.size w.heap.size (X.length + Y.length) (X.length + Y.length) o ∧ Below w.heap.size w wq) (fun _ jv _ => Y.length - (intOf jv).toNat)
      case atStart => exact ⟨0, _, 0, Nat.zero_le _, rfl, rfl, MulInv.start hinv.out, by omega, by omega, hR, hB⟩
      case round =>
        clear hR hB hinv o
        obtain ⟨j, o, cy, hj, rfl, rfl, hinv, hc0, hc1, hR, hB⟩ := hrel
        by_cases hjt : j < Y.length
        · obtain ⟨b, off, rfl, hcX⟩ := (hX.below hB).at_ hlt
          obtain ⟨b', off', rfl, hcY⟩ := (hY.below hB).at_ hjt
          have hcO := hR.cell (i + j) (by omega)
          have hfO := hR.frozen (i + j)
          have hsz := hR.lt
          have hx := hX.lim.getD i
          have hy := hY.lim.getD j
          have hq := hR.lim.getD (i + j)
          have hp := mul_lim hx hy
          have hstep := hinv.out.step hX.lim hY.lim hR.lim hjt (show i + Y.length ≤ o.length by rw [hR.len]; omega)
          have Hstep := Lib.hid hstep
          clear hstep
          generalize X.getD i 0 = x at *
          generalize Y.getD j 0 = y at *
          generalize o.getD (i + j) 0 = q at *
          go_wp2
          go_quiet (fail)
          go_wp2
          go_roundw
          case rel => exact ⟨j + 1, _, _, by omega, rfl, by go_num, Hstep, by omega, by omega, Row.stored (hR.drew _) (i + j) (by omega) (by omega), Below.setCell (below_drawn hB ⟨_, rfl⟩) (Nat.le_refl _) _⟩
          case measure => simp [intOf] <;> omega
        · obtain rfl : j = Y.length := by omega
          have hcO := hR.cell (i + Y.length) (by omega)
          have hfO := hR.frozen (i + Y.length)
          have hsz := hR.lt
          have hlast := hinv.out.last (by rw [hR.len]; omega)
          have Hlast := Lib.hid hlast
          clear hlast
          have hZ := Row.stored hR (i + Y.length) (x := cy) hc0 hc1
          have hB2 := hB.setCell (p := ⟨w.heap.size, i + Y.length, none⟩) (Nat.le_refl _) (.int .u32 cy)
          go_wp2
          go_roundw
          case rel => exact ⟨i + 1, _, by omega, by go_num, Hlast, hZ, hB2⟩
          case measure => simp [intOf] <;> omega
    · obtain rfl : i = X.length := by omega
      have hlast := hinv.out
      rw [List.take_length, List.take_of_length_le (by rw [hR.len]; omega)] at hlast
      have Hlast := Lib.hid hlast
      clear hlast
      go_wp2_with (go_at_call 82; refine (trim_calls _ _ _ _ _ hR.toOwn.sl).mono ?_; rintro e w' ⟨rfl, rfl⟩)
      rw [Hlast.out]
      go_ret
      have hO := hR.toOwn.strip
      rw [Hlast.out] at hO
      exact ⟨_, _, rfl, hO, hB⟩
end Go.Proofs.Ytkidgeeedigkhaa
