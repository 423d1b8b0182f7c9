/- The reference's Mul, small, Two, Shr. -/
import Derived.Test.YtgjakbhfahehfaaRArith
import Derived.Test.YtgjakbhfahehfaaShift
namespace Go.Proofs.Ytgjakbhfahehfaa
open Go.RowKit

set_option maxHeartbeats 2000000 in
theorem rmul_calls (w : World) (A : Option Addr) (n c : Nat) (X : List Int) (A' : Option Addr) (n' c' : Nat) (Y : List Int) (hX : Sl w A n c X) (hY : Sl w A' n' c' Y) (hs : n + n' ≤ 35184372088832) :
    Calls Try.prog 39 #[.slice A n c, .slice A' n' c'] w (RetNum (val X * val Y) w) := by
  obtain rfl := hX.len
  obtain rfl := hY.len
  go_enter Try.func39, Try.ntmps39
  go_wp2_with (at_make; refine make_u32 _ rfl _ _ rfl (X.length + Y.length) _ _ _ _ rfl rfl ?_ ?_ ?_ ?_; (iterate 3 omega); intro w1 hR hB)
  go_loopw [6] (fun iv wr => ∃ (i : Nat) (o : List Int), i ≤ X.length ∧ iv = .int .i64 i ∧ Hid (val (o.take (i + Y.length)) = val (X.take i) * val Y) ∧ Row wr w.heap.size w.heap.size (X.length + Y.length) (X.length + Y.length) o ∧ Below w.heap.size w wr) (fun iv _ => X.length - (intOf iv).toNat)
  case atStart => exact ⟨0, _, Nat.zero_le _, rfl, by unfold Hid; rw [List.take_replicate, val_replicate]; simp [val], hR, hB⟩
  case round =>
    clear hR hB
    obtain ⟨i, o, hi, rfl, hinv, hR, hB⟩ := hrel
    by_cases hlt : i < X.length
    · go_wp2
      go_loopw [7, 8] (fun cv jv wq => ∃ (j : Nat) (o : List Int) (cy : Int), j ≤ Y.length ∧ cv = .int .u64 cy ∧ jv = .int .i64 j ∧ Hid (MulInv X Y o i j cy) ∧ 0 ≤ cy ∧ cy < 4294967296 ∧ Row wq w.heap.size w.heap.size (X.length + Y.length) (X.length + Y.length) o ∧ Below w.heap.size w wq) (fun _ jv _ => Y.length - (intOf jv).toNat)
      case atStart => exact ⟨0, _, 0, Nat.zero_le _, rfl, rfl, MulInv.start hinv.out, by omega, by omega, hR, hB⟩
      case round =>
        clear hR hB hinv o
        obtain ⟨j, o, cy, hj, rfl, rfl, hinv, hc0, hc1, hR, hB⟩ := hrel
        by_cases hjt : j < Y.length
        · obtain ⟨b, off, rfl, hcX⟩ := (hX.below hB).at_ hlt
          obtain ⟨b', off', rfl, hcY⟩ := (hY.below hB).at_ hjt
          have hcO := hR.cell (i + j) (by omega)
          have hfO := hR.frozen (i + j)
          have hsz := hR.lt
          have hx := hX.lim.getD i
          have hy := hY.lim.getD j
          have hq := hR.lim.getD (i + j)
          have hp := mul_lim hx hy
          have hstep := hinv.out.step hX.lim hY.lim hR.lim hjt (show i + Y.length ≤ o.length by rw [hR.len]; omega)
          rw [show cy + (X.getD i 0 * Y.getD j 0 + o.getD (i + j) 0) = cy + o.getD (i + j) 0 + X.getD i 0 * Y.getD j 0 by omega] at hstep
          have Hstep := Lib.hid hstep
          clear hstep
          generalize X.getD i 0 = x at *
          generalize Y.getD j 0 = y at *
          generalize o.getD (i + j) 0 = q at *
          go_wp2
          go_quiet (fail)
          go_wp2
          go_roundw
          case rel => exact ⟨j + 1, _, _, by omega, rfl, by go_num, Hstep, by omega, by omega, Row.stored (hR.drew _) (i + j) (by omega) (by omega), Below.setCell (below_drawn hB ⟨_, rfl⟩) (Nat.le_refl _) _⟩
          case measure => simp [intOf] <;> omega
        · obtain rfl : j = Y.length := by omega
          have hcO := hR.cell (i + Y.length) (by omega)
          have hfO := hR.frozen (i + Y.length)
          have hsz := hR.lt
          have hlast := hinv.out.last (by rw [hR.len]; omega)
          have Hlast := Lib.hid hlast
          clear hlast
          have hZ := Row.stored hR (i + Y.length) (x := cy) hc0 hc1
          have hB2 := hB.setCell (p := ⟨w.heap.size, i + Y.length, none⟩) (Nat.le_refl _) (.int .u32 cy)
          go_wp2
          go_roundw
          case rel => exact ⟨i + 1, _, by omega, by go_num, Hlast, hZ, hB2⟩
          case measure => simp [intOf] <;> omega
    · obtain rfl : i = X.length := by omega
      have hlast := hinv.out
      rw [List.take_length, List.take_of_length_le (by rw [hR.len]; omega)] at hlast
      have Hlast := Lib.hid hlast
      clear hlast
      go_wp2_with fail
      refine (rnorm_calls _ _ _ _ _ hR.toOwn.sl (by omega)).mono ?_
      rintro e w5 ⟨A3, c3, rfl, hO5, hB5⟩
      rw [Hlast.out] at hO5 ⊢
      go_wp2
      go_ret
      exact ⟨A3, c3, rfl, hO5.base hB.size, below_step hB hB5⟩

/-- A quotient and a rest of one limb, the rest as a word of 64 bits. -/
def RetNumR64 (N : Nat) (k : Int) (w : World) (e : Ending) (w' : World) : Prop := ∃ A c, e = .returned (.tuple #[.slice A (digs N).length c, .int .u64 k]) ∧ Own w' w.heap.size A (digs N).length c (digs N) ∧ Below w.heap.size w w'

set_option maxHeartbeats 1000000 in
theorem small_calls (w : World) (A : Option Addr) (n c : Nat) (X : List Int) (d : Int) (hX : Sl w A n c X) (hd : 0 < d) (hd1 : d < 4294967296) (hs : n ≤ 35184372088832) :
    Calls Try.prog 36 #[.slice A n c, .int .u64 d] w (RetNumR64 (val X / d.toNat) ((val X % d.toNat : Nat) : Int) w) := by
  obtain rfl := hX.len
  go_enter Try.func36, Try.ntmps36
  go_wp2_with (at_make; refine make_u32 _ rfl _ _ rfl X.length _ _ _ _ rfl rfl ?_ ?_ ?_ ?_; (iterate 3 omega); intro w1 hR hB)
  go_loopw [7, 8] (fun cv iv wr => ∃ (k : Nat) (o : List Int) (r : Int), k ≤ X.length ∧ cv = .int .u64 r ∧ iv = .int .i64 (k - 1) ∧ Hid (ShortInv X o d k r) ∧ Row wr w.heap.size w.heap.size X.length X.length o ∧ Below w.heap.size w wr) (fun _ iv _ => (intOf iv + 1).toNat)
  case atStart => exact ⟨X.length, _, 0, Nat.le_refl _, rfl, rfl, ShortInv.start hd (by simp), hR, hB⟩
  case round =>
    clear hR hB
    obtain ⟨k, o, r, hk, rfl, rfl, hinv, hR, hB⟩ := hrel
    by_cases h0 : k = 0
    · subst h0
      obtain ⟨h1, h2⟩ := hinv.out.last
      have H1 := Lib.hid h1
      have H2 := Lib.hid h2
      have hr0 := hinv.out.r0
      have hr1 := hinv.out.r1
      clear h1 h2
      go_wp2_with fail
      refine (rnorm_calls _ _ _ _ _ hR.toOwn.sl (by omega)).mono ?_
      rintro e w5 ⟨A3, c3, rfl, hO5, hB5⟩
      rw [H1.out] at hO5 ⊢
      go_wp2
      go_ret2
      exact ⟨A3, c3, by rw [H2.out]; rfl, hO5.base hB.size, below_step hB hB5⟩
    · obtain ⟨i, rfl⟩ : ∃ i, k = i + 1 := ⟨k - 1, by omega⟩
      clear h0
      obtain ⟨b, off, rfl, hcX⟩ := (hX.below hB).at_ (i := i) (by omega)
      have hcO := hR.cell i (by omega)
      have hfO := hR.frozen i
      have hsz := hR.lt
      have e0 : ((i + 1 : Nat) : Int) - 1 = i := by omega
      rw [e0]
      clear e0
      have hstep := Lib.hid (hinv.out.step hX.lim (show i < o.length by rw [hR.len]; omega) (by omega))
      have hx := hX.lim.getD i
      have hr0 := hinv.out.r0
      have hr1 := hinv.out.r1
      have hq := div_lt_B hr0 hr1 hx
      generalize X.getD i 0 = x at *
      go_wp2
      go_roundw
      case rel => exact ⟨i, _, _, by omega, rfl, rfl, hstep, Row.stored hR i hq.1 hq.2, hB.setCell (Nat.le_refl _) _⟩
      case measure => simp [intOf] <;> omega
end Go.Proofs.Ytgjakbhfahehfaa
