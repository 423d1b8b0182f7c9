/- nat.shl, nat.shr -/
import Derived.Test.YtkidgeeedigkhaaShort
import Derived.Test.YtkidgeeedigkhaaNum3
namespace Go.Proofs.Ytkidgeeedigkhaa
open Go.RowKit

theorem or32 (k : Nat) (a b : Int) (h0 : 0 ≤ a) (hb0 : 0 ≤ b) (hb1 : b < 4294967296) (hk : b.toNat % 2 ^ k = 0) (ha : a.toNat < 2 ^ k) (ha1 : a < 4294967296) : bits .or .u32 a b = a + b := by
  rw [u32_or a b h0 ha1 hb0 hb1, Nat.or_comm, nat_join k _ _ hk ha]
  omega

set_option maxHeartbeats 2000000 in
theorem shl_calls (w : World) (A : Option Addr) (n c : Nat) (la : List Int) (m : Nat) (h : Sl w A n c la) (hs : n + m / 32 + 1 ≤ 70368744177664) :
    Calls Try.prog 84 #[.slice A n c, .int .i64 m] w (RetNum (val la * 2 ^ m) w) := by
  have hX := h.strip
  have eX := val_digs (val la)
  have hsX := digs_val_len h.lim
  have hsm : (digs (val la)).length + m / 32 + 1 ≤ 70368744177664 := by have := h.len; omega
  clear hsX hs
  go_enter Try.func84, Try.ntmps84
  go_wp2_with fail
  refine (trim_calls _ _ _ _ _ h).mono ?_
  rintro e w' ⟨rfl, rfl⟩
  clear h
  generalize val la = a at *
  generalize digs a = X at *
  subst eX
  by_cases h0 : X.length = 0
  · have e1 := Lib.hid (show val X * 2 ^ m = 0 by rw [List.eq_nil_of_length_eq_zero h0]; simp [val])
    rw [h0]
    clear h0
    go_wp2
    go_ret
    refine ⟨none, 0, by rw [e1.out, digs_zero]; rfl, ?_, Below.refl _ _⟩
    rw [e1.out, digs_zero]
    exact Own.nil _ _
  · have hne : ((X.length : Int) == 0) = false := by simpa using h0
    go_wp2_with (at_make; refine make_u32 _ rfl _ _ rfl (X.length + m / 32 + 1) _ _ _ _ rfl rfl ?_ ?_ ?_ ?_; (iterate 3 omega); intro w1 hR hB)
    obtain ⟨q, hq⟩ : ∃ q, q = m / 32 := ⟨_, rfl⟩
    obtain ⟨s, hs⟩ : ∃ s, s = m % 32 := ⟨_, rfl⟩
    rw [show (m : Int) / 32 = (q : Int) by omega, show (m : Int) % 32 = (s : Int) by omega, ← hq]
    rw [← hq] at hR hsm
    have hs31 : s ≤ 31 := by omega
    have HL := Lib.hid (show ∀ o, ShlInv X o q s X.length → o.length = X.length + q + 1 → val o = val X * 2 ^ m by rw [hq, hs]; exact fun o => ShlInv.last)
    clear hq hs h0 hne
    go_loopw [28] (fun iv wr => ∃ (i : Nat) (o : List Int), i ≤ X.length ∧ iv = .int .i64 i ∧ Hid (ShlInv X o q s i) ∧ Row wr w.heap.size w.heap.size (X.length + q + 1) (X.length + q + 1) o ∧ Below w.heap.size w wr) (fun iv _ => X.length - (intOf iv).toNat)
    case atStart => exact ⟨0, _, Nat.zero_le _, rfl, ShlInv.start _ _ _ _, hR, hB⟩
    case round =>
      clear hR hB
      obtain ⟨i, o, hi, rfl, hinv, hR, hB⟩ := hrel
      by_cases hlt : i < X.length
      · obtain ⟨b, off, rfl, hcX⟩ := (hX.below hB).at_ hlt
        have hcO := hR.cell (i + q) (by omega)
        have hfO := hR.frozen (i + q)
        have hfO2 := hR.frozen (i + q + 1)
        have hsz := hR.lt
        have hx := hX.lim.getD i
        have hP := Two32.mk' hs31
        have hstep := Lib.hid (hinv.out.step hP hX.lim hR.lim (show i + q + 1 < o.length by rw [hR.len]; omega))
        have hh := hR.lim.getD (i + q)
        have hcO2 := hR.cell (i + q + 1) (by omega)
        have ht := hinv.out.top
        obtain ⟨a1, a2, a3, a4, a5, a6, a7⟩ := shl_limb hP hx hh.1 (by omega)
        have hpm := hP.pm
        have hor := or32 s _ _ hh.1 (Int.emod_nonneg _ (by omega)) (Int.emod_lt_of_pos _ (by omega)) a3 ht hh.2
        have hw : IntKind.u64.wrap (X.getD i 0 * 2 ^ s) = X.getD i 0 * ((2 ^ s : Nat) : Int) := by
          rw [show ((2 ^ s : Nat) : Int) = 2 ^ s by rw [Int.natCast_pow]; rfl] at a1 a2 ⊢
          exact IntWalk.u64_in _ ⟨a1, by omega⟩
        generalize X.getD i 0 * ((2 ^ s : Nat) : Int) = V at *
        generalize X.getD i 0 = x at *
        generalize o.getD (i + q) 0 = h at *
        generalize hL : h + V % 4294967296 = L at *
        clear hP hpm a3 a7 ht hL
        go_wp2
        go_roundw
        case rel => exact ⟨i + 1, _, by omega, by go_num, hstep, Row.stored (Row.stored hR (i + q) a4 a5) (i + q + 1) a6 (by omega), (hB.setCell (p := ⟨w.heap.size, i + q, none⟩) (Nat.le_refl _) _).setCell (Nat.le_refl _) _⟩
        case measure => simp [intOf] <;> omega
      · obtain rfl : i = X.length := by omega
        have h1 := Lib.hid (HL.out _ hinv.out hR.len)
        go_wp2_with (go_at_call 82; refine (trim_calls _ _ _ _ _ hR.toOwn.sl).mono ?_; rintro e w' ⟨rfl, rfl⟩)
        rw [h1.out]
        go_ret
        have hO := hR.toOwn.strip
        rw [h1.out] at hO
        exact ⟨_, _, rfl, hO, hB⟩

theorem or64_r (a b : Int) (h0 : 0 ≤ a) (h1 : a < 4294967296) (hb0 : 0 ≤ b) (hb : b < 4294967296) : bits .or .u64 a (b * 4294967296) = a + 4294967296 * b := by
  rw [u64_or a _ h0 (by omega) (by omega) (by omega), Nat.or_comm, nat_join 32 _ _ (by omega) (by omega)]
  omega

theorem shr_cast (x y : Int) (s : Nat) (hx : 0 ≤ x) (hy : 0 ≤ y) : (((x.toNat + 4294967296 * y.toNat) / 2 ^ s % 4294967296 : Nat) : Int) = (x + 4294967296 * y) / 2 ^ s % 4294967296 := by
  rw [Int.natCast_emod, Int.natCast_ediv, Int.natCast_add, Int.natCast_mul, Int.natCast_pow, Int.toNat_of_nonneg hx, Int.toNat_of_nonneg hy]
  rfl

set_option maxHeartbeats 2000000 in
theorem shr_calls (w : World) (A : Option Addr) (n c : Nat) (la : List Int) (m : Nat) (h : Sl w A n c la) (hs : m < 9223372036854775808) :
    Calls Try.prog 85 #[.slice A n c, .int .i64 m] w (RetNum (val la / 2 ^ m) w) := by
  have hX := h.strip
  have eX := val_digs (val la)
  have hsm := hX.small
  go_enter Try.func85, Try.ntmps85
  go_wp2_with fail
  refine (trim_calls _ _ _ _ _ h).mono ?_
  rintro e w' ⟨rfl, rfl⟩
  clear h
  generalize val la = a at *
  generalize digs a = X at *
  subst eX
  by_cases h0 : X.length ≤ m / 32
  · have e1 := Lib.hid (shr_zero hX.lim h0)
    have h0' : decide ((X.length : Int) ≤ (m : Int) / 32) = true := by simp; omega
    clear h0
    go_wp2
    go_ret
    refine ⟨none, 0, by rw [e1.out, digs_zero]; rfl, ?_, Below.refl _ _⟩
    rw [e1.out, digs_zero]
    exact Own.nil _ _
  · have h0' : decide ((X.length : Int) ≤ (m : Int) / 32) = false := by simp; omega
    have h1 : m / 32 < X.length := by omega
    have h2 : (m : Int) / 32 < X.length := by omega
    clear h0
    go_wp2_with (at_make; refine make_u32 _ rfl _ _ rfl (X.length - m / 32) _ _ _ _ rfl rfl ?_ ?_ ?_ ?_; (iterate 3 omega); intro w1 hR hB)
    obtain ⟨q, hq⟩ : ∃ q, q = m / 32 := ⟨_, rfl⟩
    obtain ⟨s, hs'⟩ : ∃ s, s = m % 32 := ⟨_, rfl⟩
    obtain ⟨K, hK⟩ : ∃ K, K = X.length - m / 32 := ⟨_, rfl⟩
    rw [show (m : Int) / 32 = (q : Int) by omega, show (m : Int) % 32 = (s : Int) by omega, ← hK]
    rw [← hK] at hR
    have hs31 : s ≤ 31 := by omega
    have HX := Lib.hid (show X.length = q + K by omega)
    have hqK : q + K ≤ 70368744177664 := by omega
    have HL := Lib.hid (show ∀ o, ShrInv X o q s o.length → o.length = K → val o = val X / 2 ^ m by rw [hq, hs', hK]; exact fun o h1 h2 => ShrInv.last h1 hX.lim h2 (by omega))
    clear hq hs' hK h0' h1 h2 hsm
    go_loopw [28] (fun iv wr => ∃ (i : Nat) (o : List Int), i ≤ K ∧ iv = .int .i64 i ∧ Hid (ShrInv X o q s i) ∧ Row wr w.heap.size w.heap.size K K o ∧ Below w.heap.size w wr) (fun iv _ => K - (intOf iv).toNat)
    case atStart => exact ⟨0, _, Nat.zero_le _, rfl, ShrInv.start _ _ _ _, hR, hB⟩
    case round =>
      clear hR hB
      obtain ⟨i, o, hi, rfl, hinv, hR, hB⟩ := hrel
      by_cases hlt : i < K
      · obtain ⟨b, off, rfl, hcX⟩ := (hX.below hB).at_ (i := i + q) (by have := HX.out; omega)
        have hcO := hR.cell i (by omega)
        have hfO := hR.frozen i
        have hsz := hR.lt
        have hx := hX.lim.getD (i + q)
        have hy := hX.lim.getD (i + q + 1)
        have hstep := hinv.out.step hs31 hX.lim (show i < o.length by rw [hR.len]; omega) (by have := HX.out; omega)
        have hZ := Row.stored hR i (x := ((((X.getD (i + q) 0).toNat + 4294967296 * (X.getD (i + q + 1) 0).toNat) / 2 ^ s % 4294967296 : Nat) : Int)) (by omega) (by omega)
        have h3 : (i : Int) + q < X.length := by have := HX.out; omega
        have h3' : i + q < X.length := by have := HX.out; omega
        by_cases hlt2 : i + q + 1 < X.length
        · have h4 : (i : Int) + q + 1 < X.length := by omega
          obtain ⟨b', off', he, hcY⟩ := (hX.below hB).at_ hlt2
          cases he
          have hor := or64_r _ _ hx.1 hx.2 hy.1 hy.2
          have hd : decide ((i : Int) + q + 1 < X.length) = true := by simp; omega
          rw [shr_cast _ _ s hx.1 hy.1] at hstep hZ
          generalize X.getD (i + q) 0 = x at *
          generalize X.getD (i + q + 1) 0 = y at *
          have hstep := Lib.hid hstep
          go_wp2
          go_roundw
          case rel => exact ⟨i + 1, _, by omega, by go_num, hstep, hZ, hB.setCell (Nat.le_refl _) _⟩
          case measure => simp [intOf] <;> omega
        · have hd : decide ((i : Int) + q + 1 < X.length) = false := by simp; omega
          have hy0 : X.getD (i + q + 1) 0 = 0 := by rw [List.getD_eq_getElem?_getD, List.getElem?_eq_none (by omega)]; rfl
          rw [hy0, shr_cast _ _ s hx.1 (by omega), Int.mul_zero, Int.add_zero] at hstep hZ
          clear hy hy0
          generalize X.getD (i + q) 0 = x at *
          have hstep := Lib.hid hstep
          go_wp2
          go_roundw
          case rel => exact ⟨i + 1, _, by omega, by go_num, hstep, hZ, hB.setCell (Nat.le_refl _) _⟩
          case measure => simp [intOf] <;> omega
      · obtain rfl : i = K := by omega
        have h1 := Lib.hid (HL.out o (by rw [hR.len]; exact hinv.out) hR.len)
        go_wp2_with (go_at_call 82; refine (trim_calls _ _ _ _ _ hR.toOwn.sl).mono ?_; rintro e w' ⟨rfl, rfl⟩)
        rw [h1.out]
        go_ret
        have hO := hR.toOwn.strip
        rw [h1.out] at hO
        exact ⟨_, _, rfl, hO, hB⟩
end Go.Proofs.Ytkidgeeedigkhaa
