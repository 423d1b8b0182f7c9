/- The reference's Two, Shr. -/
import Derived.Test.YtgjakbhfahehfaaRMul
namespace Go.Proofs.Ytgjakbhfahehfaa
open Go.RowKit

theorem two_digs (n : Nat) : List.replicate (n / 32) 0 ++ [((2 ^ (n % 32) : Nat) : Int)] = digs (2 ^ n) := by
  have hp : 0 < 2 ^ (n % 32) := Nat.pow_pos (by omega)
  have hlt : 2 ^ (n % 32) < 2 ^ 32 := Nat.pow_lt_pow_right (by omega) (by omega)
  have hl : Lim (List.replicate (n / 32) 0 ++ [((2 ^ (n % 32) : Nat) : Int)]) := (Lim.replicate _).append (Lim.one (by omega) (by omega))
  have hc : Canon (List.replicate (n / 32) 0 ++ [((2 ^ (n % 32) : Nat) : Int)]) := canon_snoc (by omega)
  have := canon_digs hl hc
  rw [val_append, val_replicate, val_one, List.length_replicate, Int.toNat_natCast, Nat.zero_add, Nat.mul_comm, pow_shift] at this
  exact this

set_option maxHeartbeats 1000000 in
theorem two_calls (w : World) (m : Nat) (hm : m < 1125899906842592) :
    Calls Try.prog 37 #[.int .i64 m] w (RetNum (2 ^ m) w) := by
  have htd := two_digs m
  obtain ⟨q, hq⟩ : ∃ q, q = m / 32 := ⟨_, rfl⟩
  have hlt : 2 ^ (m % 32) < 2 ^ 32 := Nat.pow_lt_pow_right (by omega) (by omega)
  have hpc : ((2 ^ (m % 32) : Nat) : Int) = 2 ^ (m % 32) % 4294967296 := by
    have : (2 : Int) ^ (m % 32) = ((2 ^ (m % 32) : Nat) : Int) := by rw [Int.natCast_pow]; rfl
    rw [this]
    exact (Int.emod_eq_of_lt (Int.natCast_nonneg _) (Int.ofNat_lt.2 hlt)).symm
  rw [← hq, hpc] at htd
  have hqi := Lib.hid (show (m : Int) / 32 = (q : Int) by omega)
  have hqb : q + 1 < 35184372088832 := by omega
  have hdl : (digs (2 ^ m)).length = q + 1 := by rw [← htd]; simp
  replace hdl := Lib.hid hdl
  replace htd := Lib.hid htd
  clear hq hlt hpc
  go_enter Try.func37, Try.ntmps37
  go_wp2
  go_loopw [3, 4] (fun ov iv wr => ∃ (k : Nat) (A1 : Option Addr) (c1 : Nat), k ≤ q ∧ iv = .int .i64 k ∧ ov = .slice A1 k c1 ∧ Own wr w.heap.size A1 k c1 (List.replicate k 0) ∧ Below w.heap.size w wr) (fun _ iv _ => q - (intOf iv).toNat)
  case atStart => exact ⟨0, none, 0, Nat.zero_le _, rfl, rfl, Own.nil _ _, Below.refl _ _⟩
  case round =>
    obtain ⟨k, A1, c1, hk, rfl, rfl, hO, hB⟩ := hrel
    by_cases hlt : k < q
    · have hlt' : (k : Int) < (m : Int) / 32 := by have := hqi.out; omega
      go_wp2_with (at_builtin; refine append_u32 _ rfl _ _ rfl w.heap.size A1 k c1 (List.replicate k 0) _ 1 1 [0] rfl rfl (hO.alloc _) (Row.lit1 _ (by omega) (by omega)).toOwn.sl ?_ ?_ ?_; omega; (have := hB.size; simp; omega); intro A2 c2 w4 hO4 hg4 hat4; have hB4 := below_append (hB.alloc hB.size _) (hO.alloc _) (Nat.le_refl _) hg4)
      rw [show List.replicate k (0 : Int) ++ [0] = List.replicate (k + 1) 0 by rw [List.replicate_succ']] at hO4
      go_roundw
      case rel => exact ⟨k + 1, A2, c2, by omega, by go_num, rfl, hO4, hB4⟩
      case measure => simp [intOf] <;> omega
    · obtain rfl : k = q := by omega
      have hlt' : ¬ (k : Int) < (m : Int) / 32 := by have := hqi.out; omega
      have hlt2 : (m : Int) / 32 ≤ (k : Int) := by omega
      go_wp2_with (at_builtin; refine append_u32 _ rfl _ _ rfl w.heap.size A1 k c1 (List.replicate k 0) _ 1 1 [2 ^ (m % 32) % 4294967296] rfl rfl (hO.alloc _) (Row.lit1 _ (by omega) (by omega)).toOwn.sl ?_ ?_ ?_; omega; (have := hB.size; simp; omega); intro A2 c2 w4 hO4 hg4 hat4; have hB4 := below_append (hB.alloc hB.size _) (hO.alloc _) (Nat.le_refl _) hg4)
      rw [htd.out] at hO4
      go_ret
      exact ⟨A2, c2, by rw [hdl.out]; rfl, by rw [hdl.out]; exact hO4, hB4⟩

set_option maxHeartbeats 2000000 in
theorem rshr_calls (w : World) (A : Option Addr) (n c : Nat) (X : List Int) (m : Nat) (hX : Sl w A n c X) (hs : n ≤ 35184372088832) (hm : m < 9223372036854775808) :
    Calls Try.prog 43 #[.slice A n c, .int .i64 m] w (RetNumE (val X / 2 ^ m) 0 w) := by
  obtain rfl := hX.len
  by_cases hb : blen (val X) ≤ m
  · have e1 := Lib.hid (show val X / 2 ^ m = 0 from Nat.div_eq_of_lt (blen_le_iff.1 hb))
    go_enter Try.func43, Try.ntmps43
    go_wp2_with fail
    refine (rbits_calls _ _ _ _ _ hX).mono ?_
    rintro e w1 ⟨rfl, rfl⟩
    go_wp2
    go_ret2
    refine ⟨none, 0, by rw [e1.out, digs_zero]; rfl, ?_, Below.refl _ _⟩
    rw [e1.out, digs_zero]
    exact Own.nil _ _
  · have hbl : blen (val X) ≤ 32 * X.length := blen_le_iff.2 (by rw [← pow_B]; exact val_lt hX.lim)
    have h1 : m / 32 ≤ X.length := by omega
    have hb2 : m < blen (val X) := by omega
    obtain ⟨K, hK⟩ : ∃ K, K = X.length - m / 32 := ⟨_, rfl⟩
    obtain ⟨q, hq⟩ : ∃ q, q = m / 32 := ⟨_, rfl⟩
    have HX := Lib.hid (show X.length = q + K by omega)
    have hqi := Lib.hid (show (m : Int) / 32 = (q : Int) by omega)
    have hqK : q + K ≤ 35184372088832 := by omega
    have hs31 : m % 32 ≤ 31 := by omega
    have HL := Lib.hid (show ∀ o, ShrInv X o q (m % 32) o.length → o.length = K → val o = val X / 2 ^ m by rw [hq, hK]; exact fun o a b => ShrInv.last a hX.lim b (by omega))
    clear hq hK hbl hb h1 hs
    go_enter Try.func43, Try.ntmps43
    go_wp2_with fail
    refine (rbits_calls _ _ _ _ _ hX).mono ?_
    rintro e w1 ⟨rfl, rfl⟩
    have hd0 : decide (blen (val X) ≤ m) = false := decide_eq_false (by omega)
    go_wp2
    clear hb2 hd0
    rw [hqi.out]
    go_loopw [6, 7] (fun ov iv wr => ∃ (k : Nat) (A1 : Option Addr) (c1 : Nat) (o : List Int), k ≤ K ∧ iv = .int .i64 ((q : Int) + k) ∧ ov = .slice A1 k c1 ∧ Hid (ShrInv X o q (m % 32) k) ∧ Own wr w.heap.size A1 k c1 o ∧ Below w.heap.size w wr) (fun _ iv _ => (q : Nat) + K - (intOf iv).toNat)
    case atStart => exact ⟨0, none, 0, [], Nat.zero_le _, by go_num, rfl, ShrInv.start _ _ _ _, Own.nil _ _, Below.refl _ _⟩
    case round =>
      obtain ⟨k, A1, c1, o, hk, rfl, rfl, hinv, hO, hB⟩ := hrel
      by_cases hlt : k < K
      · have hd : decide ((q : Int) + k < X.length) = true := by have := HX.out; simp; omega
        have l1 := Lib.hid (limb_calls wr A _ c X ((q : Int) + k) (hX.below hB) (by omega))
        have l2 := Lib.hid (limb_calls wr A _ c X ((q : Int) + k + 1) (hX.below hB) (by omega))
        rw [show ((q : Int) + k).toNat = k + q by omega] at l1
        rw [show ((q : Int) + k + 1).toNat = k + q + 1 by omega] at l2
        have hx := hX.lim.getD (k + q)
        have hy := hX.lim.getD (k + q + 1)
        have hi0 : ShrInv X (o ++ [0]) q (m % 32) k := ⟨by rw [← hinv.out.eq, List.take_append_of_le_length (by rw [hO.len]; exact Nat.le_refl _)]⟩
        have hstep := hi0.step hs31 hX.lim (by rw [List.length_append, hO.len]; exact Nat.lt_succ_self _) (by have := HX.out; omega)
        rw [shr_cast _ _ _ hx.1 hy.1, Int.mul_comm 4294967296] at hstep
        have hnn : 0 ≤ (X.getD (k + q) 0 + X.getD (k + q + 1) 0 * 4294967296) / 2 ^ (m % 32) := Int.ediv_nonneg (by omega) (Int.pow_nonneg (by omega))
        have hset : ∀ v : Int, (o ++ [0]).set k v = o ++ [v] := fun v => by
          rw [List.set_append_right _ _ (by rw [hO.len]; exact Nat.le_refl _), hO.len, Nat.sub_self]
          rfl
        rw [hset] at hstep
        replace hstep := Lib.hid hstep
        clear hset hi0
        generalize X.getD (k + q) 0 = x at *
        generalize X.getD (k + q + 1) 0 = y at *
        go_wp2_with fail
        refine l1.out.mono ?_
        rintro e w' ⟨rfl, rfl⟩
        go_wp2_with fail
        refine l2.out.mono ?_
        rintro e w' ⟨rfl, rfl⟩
        clear l1 l2
        go_wp2_with (at_builtin; refine append_u32 _ rfl _ _ rfl w.heap.size A1 k c1 o _ 1 1 [(x + y * 4294967296) / 2 ^ (m % 32) % 4294967296] rfl rfl (hO.alloc _) (Row.lit1 _ (Int.emod_nonneg _ (by omega)) (Int.emod_lt_of_pos _ (by omega))).toOwn.sl ?_ ?_ ?_; omega; (have := hB.size; simp; omega); intro A2 c2 w4 hO4 hg4 hat4; have hB4 := below_append (hB.alloc hB.size _) (hO.alloc _) (Nat.le_refl _) hg4)
        go_roundw
        case rel => exact ⟨k + 1, A2, c2, _, by omega, by go_num, rfl, hstep, hO4, hB4⟩
        case measure => simp [intOf] <;> omega
      · obtain rfl : k = K := by omega
        have hd : decide ((q : Int) + k < X.length) = false := by have := HX.out; simp; omega
        have hv := Lib.hid (HL.out o (by rw [hO.len]; exact hinv.out) hO.len)
        go_wp2_with fail
        refine (rnorm_calls _ _ _ _ _ hO.sl (by omega)).mono ?_
        rintro e w5 ⟨A3, c3, rfl, hO5, hB5⟩
        rw [hv.out] at hO5 ⊢
        go_wp2
        go_ret2
        exact ⟨A3, c3, rfl, hO5.base hB.size, below_step hB hB5⟩
end Go.Proofs.Ytgjakbhfahehfaa
