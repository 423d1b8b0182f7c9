/- nat.short -/
import Derived.Test.YtkidgeeedigkhaaMul
namespace Go.Proofs.Ytkidgeeedigkhaa
open Go.RowKit

theorem or64 (k : Nat) (a b : Int) (h0 : 0 ≤ a) (h1 : a < 18446744073709551616) (hk : a.toNat % 2 ^ k = 0) (hb0 : 0 ≤ b) (hb : b.toNat < 2 ^ k) (hb1 : b < 18446744073709551616) : bits .or .u64 a b = a + b := by
  rw [u64_or a b h0 h1 hb0 hb1, nat_join k _ _ hk hb]
  omega
theorem or64_32 (a b : Int) (h0 : 0 ≤ a) (h1 : a < 4294967296) (hb0 : 0 ≤ b) (hb : b < 4294967296) : bits .or .u64 (a * 4294967296) b = a * 4294967296 + b :=
  or64 32 _ _ (by omega) (by omega) (by omega) hb0 (by omega) (by omega)

/-- A quotient and a rest of one limb. -/
def RetNumR (N : Nat) (k : Int) (w : World) (e : Ending) (w' : World) : Prop := ∃ A c, e = .returned (.tuple #[.slice A (digs N).length c, .int .u32 k]) ∧ Own w' w.heap.size A (digs N).length c (digs N) ∧ Below w.heap.size w w'

set_option maxHeartbeats 1000000 in
theorem short_calls (w : World) (A : Option Addr) (n c : Nat) (X : List Int) (d : Int) (hX : Sl w A n c X) (hd : 0 < d) (hd1 : d < 4294967296) :
    Calls Try.prog 90 #[.slice A n c, .int .u32 d] w (RetNumR (val X / d.toNat) ((val X % d.toNat : Nat) : Int) w) := by
  have hsm := hX.small
  obtain rfl := hX.len
  go_enter Try.func90, Try.ntmps90
  go_wp2_with (at_make; refine make_u32 _ rfl _ _ rfl X.length _ _ _ _ rfl rfl ?_ ?_ ?_ ?_; (iterate 3 omega); intro w1 hR hB)
  go_loopw [7, 8] (fun cv iv wr => ∃ (k : Nat) (o : List Int) (r : Int), k ≤ X.length ∧ cv = .int .u64 r ∧ iv = .int .i64 (k - 1) ∧ Hid (ShortInv X o d k r) ∧ Row wr w.heap.size w.heap.size X.length X.length o ∧ Below w.heap.size w wr) (fun _ iv _ => (intOf iv + 1).toNat)
  case atStart => exact ⟨X.length, _, 0, Nat.le_refl _, rfl, rfl, ShortInv.start hd (by simp), hR, hB⟩
  case round =>
    clear hR hB
    obtain ⟨k, o, r, hk, rfl, rfl, hinv, hR, hB⟩ := hrel
    by_cases h0 : k = 0
    · subst h0
      obtain ⟨h1, h2⟩ := hinv.out.last
      have H1 := Lib.hid h1
      have H2 := Lib.hid h2
      have hr0 := hinv.out.r0
      have hr1 := hinv.out.r1
      clear h1 h2
      go_wp2_with (go_at_call 82; refine (trim_calls _ _ _ _ _ hR.toOwn.sl).mono ?_; rintro e w' ⟨rfl, rfl⟩)
      rw [H1.out]
      go_ret2
      have hO := hR.toOwn.strip
      rw [H1.out] at hO
      exact ⟨_, _, by rw [H2.out]; rfl, hO, hB⟩
    · obtain ⟨i, rfl⟩ : ∃ i, k = i + 1 := ⟨k - 1, by omega⟩
      clear h0
      obtain ⟨b, off, rfl, hcX⟩ := (hX.below hB).at_ (i := i) (by omega)
      have hcO := hR.cell i (by omega)
      have hfO := hR.frozen i
      have hsz := hR.lt
      have e0 : ((i + 1 : Nat) : Int) - 1 = i := by omega
      rw [e0]
      clear e0
      have hstep := Lib.hid (hinv.out.step hX.lim (show i < o.length by rw [hR.len]; omega) (by omega))
      have hx := hX.lim.getD i
      have hr0 := hinv.out.r0
      have hr1 := hinv.out.r1
      have hq := div_lt_B hr0 hr1 hx
      have hor := or64_32 r (X.getD i 0) hr0 (by omega) hx.1 hx.2
      generalize X.getD i 0 = x at *
      go_wp2
      go_roundw
      case rel => exact ⟨i, _, _, by omega, rfl, rfl, hstep, Row.stored hR i hq.1 hq.2, hB.setCell (Nat.le_refl _) _⟩
      case measure => simp [intOf] <;> omega
end Go.Proofs.Ytkidgeeedigkhaa
