/- The reference's Gcd, Root. -/
import Derived.Test.YtgjakbhfahehfaaRDiv
import Derived.Test.YtgjakbhfahehfaaGcd
namespace Go.Proofs.Ytgjakbhfahehfaa
open Go.RowKit

theorem rdiv_calls (w : World) (A : Option Addr) (n c : Nat) (la : List Int) (A' : Option Addr) (n' c' : Nat) (lb : List Int) (ha : Sl w A n c la) (hb : Sl w A' n' c' lb) (h0 : 0 < val lb) (hs : n ≤ 35184372088829) (hs' : n' ≤ 35184372088829) :
    Calls Try.prog 10 #[.slice A n c, .slice A' n' c'] w (RetDivR (val la / val lb) (val la % val lb) w) := by
  have hp : (digs (val lb)).length ≠ 0 := fun e => by have := (digs_nil_iff (val lb)).1 (List.eq_nil_of_length_eq_zero e); omega
  by_cases h1 : (digs (val lb)).length = 1
  · exact rdiv_one w A n c la A' n' c' lb ha hb h1 (by omega) (by omega)
  · exact rdiv_long w A n c la A' n' c' lb ha hb ((digs (val lb)).length - 1) (by omega) (by omega) hs hs'

set_option maxHeartbeats 1000000 in
theorem rgcd_calls (w : World) (A : Option Addr) (n c : Nat) (la : List Int) (A' : Option Addr) (n' c' : Nat) (lb : List Int) (ha : Sl w A n c la) (hb : Sl w A' n' c' lb) (hs : n ≤ 35184372088829) (hs' : n' ≤ 35184372088829) :
    Calls Try.prog 19 #[.slice A n c, .slice A' n' c'] w (RetNum (Nat.gcd (val la) (val lb)) w) := by
  have hla := digs_val_len ha.lim
  have hlb := digs_val_len hb.lim
  have hla2 := ha.len
  have hlb2 := hb.len
  go_enter Try.func19, Try.ntmps19
  go_wp2_with fail
  refine (rnorm_calls _ _ _ _ _ ha (by omega)).mono ?_
  rintro e w1 ⟨A1, c1, rfl, hO1, hB1⟩
  go_wp2_with fail
  refine (rnorm_calls _ _ _ _ _ (hb.below hB1) (by omega)).mono ?_
  rintro e w2 ⟨A2, c2, rfl, hO2, hB2⟩
  have hO3 := (hO1.below hB2)
  have hO4 := hO2.base hB1.size
  have hB := below_step hB1 hB2
  go_wp2
  go_loopg [5, 6] (val lb) (fun g xv yv wr => ∃ (X : Nat) (Ax : Option Addr) (cx : Nat) (Ay : Option Addr) (cy : Nat), xv = .slice Ax (digs X).length cx ∧ yv = .slice Ay (digs g).length cy ∧ Own wr w.heap.size Ax (digs X).length cx (digs X) ∧ Own wr w.heap.size Ay (digs g).length cy (digs g) ∧ Hid (Nat.gcd X g = Nat.gcd (val la) (val lb)) ∧ Hid ((digs X).length ≤ 35184372088829) ∧ Hid ((digs g).length ≤ 35184372088829) ∧ Below w.heap.size w wr)
  case atStart => exact ⟨val la, _, _, _, _, rfl, rfl, hO3, hO4, rfl, Nat.le_trans hla (by omega), Nat.le_trans hlb (by omega), hB⟩
  case round =>
    obtain ⟨X, Ax, cx, Ay, cy, rfl, rfl, hX, hY, hg, hlx, hly, hBr⟩ := hrel
    rcases Nat.eq_zero_or_pos gk with h0 | h0
    · subst h0
      have e0 := Lib.hid (show (digs 0).length = 0 by rw [digs_zero]; rfl)
      have e1 := hg.out
      rw [Nat.gcd_zero_right] at e1
      rw [e0.out]
      go_wp2
      go_ret
      rw [e1] at hX ⊢
      exact ⟨_, _, rfl, hX, hBr⟩
    · have hp : 0 < (digs gk).length := by
        rcases Nat.eq_zero_or_pos (digs gk).length with e | e
        · have := (digs_nil_iff gk).1 (List.eq_nil_of_length_eq_zero e); omega
        · exact e
      have hdiv := rdiv_calls wr Ax (digs X).length cx (digs X) Ay (digs gk).length cy (digs gk) hX.sl hY.sl (by rw [val_digs]; exact h0) hlx.out hly.out
      rw [val_digs, val_digs] at hdiv
      replace hdiv := Lib.hid hdiv
      go_wp2_with fail
      refine hdiv.out.mono ?_
      rintro e w5 ⟨Aq, cq, Ar, cr, rfl, hq, hr, hB5⟩
      clear hdiv hq
      go_wp2
      go_roundg (X % gk)
      case rel => exact ⟨gk, _, _, _, _, rfl, rfl, hY.below hB5, hr.base hBr.size, by unfold Hid; rw [← hg.out, Nat.gcd_comm gk, ← Nat.gcd_rec, Nat.gcd_comm], hly, Nat.le_trans (digs_len_mono (Nat.le_of_lt (Nat.mod_lt _ h0))) hly.out, below_step hBr hB5⟩
      case measure => exact Nat.mod_lt _ h0

theorem sq_lt {a m : Nat} (h : a * a < 2 ^ (m + m)) : a < 2 ^ m := by
  rcases Nat.lt_or_ge a (2 ^ m) with h1 | h1
  · exact h1
  · have : 2 ^ m * 2 ^ m ≤ a * a := Nat.mul_le_mul h1 h1
    rw [← Nat.pow_add] at this
    omega
theorem len_of_lt_pow {x m k : Nat} (h : x < 2 ^ m) (hk : m ≤ 32 * k) : (digs x).length ≤ k := digs_len_le (by rw [pow_B]; exact Nat.lt_of_lt_of_le h (Nat.pow_le_pow_right (by omega) hk))

set_option maxHeartbeats 1000000 in
theorem rroot_calls (w : World) (A : Option Addr) (n c : Nat) (la : List Int) (ha : Sl w A n c la) (hs : n ≤ 35184372088820) :
    Calls Try.prog 21 #[.slice A n c] w (RetNum (rootN (val la)) w) := by
  have hla2 := ha.len
  have hbl : blen (val la) ≤ 32 * n := blen_le_iff.2 (by rw [← pow_B, ← hla2]; exact val_lt ha.lim)
  have hblt := blen_lt (val la)
  obtain ⟨M, hM⟩ : ∃ M, M = (blen (val la) + 1) / 2 := ⟨_, rfl⟩
  have hMi := Lib.hid (show ((blen (val la) : Int) + 1) / 2 = (M : Int) by omega)
  have hM2 : val la < 2 ^ (M + M) := Nat.lt_of_lt_of_le hblt (Nat.pow_le_pow_right (by omega) (by omega))
  have hM3 : M ≤ 562949953421128 := by omega
  have hst : val la < (0 + 2 ^ (M + 1)) * (0 + 2 ^ (M + 1)) := by
    rw [Nat.zero_add, ← Nat.pow_add]
    exact Nat.lt_of_lt_of_le hM2 (Nat.pow_le_pow_right (by omega) (by omega))
  clear hM hblt
  go_enter Try.func21, Try.ntmps21
  go_wp2_with fail
  refine (rbits_calls _ _ _ _ _ ha).mono ?_
  rintro e w1 ⟨rfl, rfl⟩
  go_wp2
  rw [hMi.out]
  clear hbl
  go_loopw [3, 4] (fun ov iv wr => ∃ (k O : Nat) (Ao : Option Addr) (co : Nat), k ≤ M + 1 ∧ ov = .slice Ao (digs O).length co ∧ iv = .int .i64 (k - 1) ∧ Hid (O * O ≤ val la) ∧ Hid (val la < (O + 2 ^ k) * (O + 2 ^ k)) ∧ Own wr w.heap.size Ao (digs O).length co (digs O) ∧ Below w.heap.size w wr) (fun _ iv _ => (intOf iv + 1).toNat)
  case atStart => exact ⟨M + 1, 0, none, 0, Nat.le_refl _, by rw [digs_zero]; rfl, by go_num, Nat.zero_le _, hst, by rw [digs_zero]; exact Own.nil _ _, Below.refl _ _⟩
  case round =>
    obtain ⟨k, O, Ao, co, hk, rfl, rfl, hlo, hhi, hO, hB⟩ := hrel
    by_cases hk0 : k = 0
    · subst hk0
      have hr := rootN_unique hlo.out hhi.out
      replace hr := Lib.hid hr
      go_wp2
      go_ret
      rw [← hr.out]
      exact ⟨_, _, rfl, hO, hB⟩
    · obtain ⟨i, rfl⟩ : ∃ i, k = i + 1 := ⟨k - 1, by omega⟩
      clear hk0
      have ei : ((i + 1 : Nat) : Int) - 1 = i := by omega
      rw [ei]
      clear ei
      have hOM : O < 2 ^ M := sq_lt (Nat.lt_of_le_of_lt hlo.out hM2)
      have hi2 : 2 ^ i ≤ 2 ^ M := Nat.pow_le_pow_right (by omega) (by omega)
      have hml : O + 2 ^ i < 2 ^ (M + 1) := by rw [Nat.pow_succ]; omega
      have l1 : (digs O).length ≤ 17592186044412 := len_of_lt_pow hOM (by omega)
      have l2 : (digs (2 ^ i)).length ≤ 17592186044412 := len_of_lt_pow (m := M + 1) (by rw [Nat.pow_succ]; omega) (by omega)
      have l3 : (digs (O + 2 ^ i)).length ≤ 17592186044412 := len_of_lt_pow hml (by omega)
      have hdbl : O + 2 ^ (i + 1) = (O + 2 ^ i) + 2 ^ i := by rw [Nat.pow_succ]; omega
      have hhi2 := hhi.out
      rw [hdbl] at hhi2
      replace hhi2 := Lib.hid hhi2
      clear hdbl hml hi2 hOM hhi
      have htwo := Lib.hid (two_calls wr i (by omega))
      go_wp2_with fail
      refine htwo.out.mono ?_
      rintro e w2 ⟨A2, c2, rfl, hO2, hB2⟩
      clear htwo
      go_wp2_with fail
      refine (radd_calls _ _ _ _ _ _ _ _ _ (hO.sl.below hB2) hO2.sl (by omega) (by omega)).mono ?_
      rintro e w3 ⟨A3, c3, rfl, hO3, hB3⟩
      rw [val_digs, val_digs] at hO3 ⊢
      have hBs := below_step (below_step hB hB2) hB3
      go_wp2_with fail
      refine (rmul_calls _ _ _ _ _ _ _ _ _ hO3.sl hO3.sl (by omega)).mono ?_
      rintro e w4 ⟨A4, c4, rfl, hO4, hB4⟩
      rw [val_digs] at hO4 ⊢
      have hBt := below_step hBs hB4
      have hcm := rcmp_calls w4 A4 _ c4 _ A n c la hO4.sl (ha.below hBt)
      rw [val_digs] at hcm
      have hOo := ((hO.below hB2).below hB3).below hB4
      have hO3' := (hO3.below hB4).base (show w.heap.size ≤ w2.heap.size by have := hB.size; have := hB2.size; omega)
      clear hO4 hO3
      generalize hme : O + 2 ^ i = me at *
      by_cases hle : me * me ≤ val la
      · have hc0 : cmpN (me * me) (val la) ≤ 0 := by unfold cmpN; split <;> (try split) <;> omega
        generalize cmpN (me * me) (val la) = cv at *
        replace hcm := Lib.hid hcm
        replace hle := Lib.hid hle
        go_wp2_with fail
        refine hcm.out.mono ?_
        rintro e w' ⟨rfl, rfl⟩
        clear hcm
        go_wp2
        go_roundw
        case rel => exact ⟨i, me, A3, c3, by omega, rfl, by go_num, hle, hhi2, hO3', hBt⟩
        case measure => simp [intOf] <;> omega
      · rw [cmpN_gt (by omega)] at hcm
        replace hcm := Lib.hid hcm
        have hhi3 := Lib.hid (show val la < (O + 2 ^ i) * (O + 2 ^ i) by rw [hme]; omega)
        clear hle
        go_wp2_with fail
        refine hcm.out.mono ?_
        rintro e w' ⟨rfl, rfl⟩
        clear hcm hme
        go_wp2
        go_roundw
        case rel => exact ⟨i, O, Ao, co, by omega, rfl, by go_num, hlo, hhi3, hOo, hBt⟩
        case measure => simp [intOf] <;> omega
end Go.Proofs.Ytgjakbhfahehfaa
