/- The walks of the statements NatRoots and NatDivides. -/
import Derived.Test.YtgjakbhfahehfaaQuot
namespace Go.Proofs.Ytgjakbhfahehfaa
open Go.RowKit

set_option maxHeartbeats 2000000 in
theorem natRoots_law (w : World) (A : Option Addr) (n c : Nat) (la : List Int) (A' : Option Addr) (n' c' : Nat) (lb : List Int) (ha : Sl w A n c la) (hb : Sl w A' n' c' lb) (hs : n ≤ 35184372087808) (hs' : n' ≤ 35184372087808) :
    Calls Try.prog 5 #[.slice A n c, .slice A' n' c'] w (RetTrue w) := by
  go_enter Try.func5, Try.ntmps5
  go_wp2_with fail
  refine (copied_calls _ _ _ _ _ ha (by omega)).mono ?_
  rintro e w1 ⟨g1, c1, rfl, hx, hB1⟩
  go_wp2_with fail
  refine (copied_calls _ _ _ _ _ (hb.below hB1) (by omega)).mono ?_
  rintro e w2 ⟨g2, c2, rfl, hy, hB2⟩
  have hx2 := hx.below hB2
  have hB := below_step hB1 hB2
  go_wp2_with fail
  refine (gcd_calls _ _ _ _ _ _ _ _ _ (Row.prefix_ (r := [77, 78, 79]) hx2).sl (Row.prefix_ (r := [77, 78, 79]) hy).sl (by omega) (by omega)).mono ?_
  rintro e w3 ⟨A3, c3, rfl, h3, hB3⟩
  have hBa := below_step hB hB3
  go_wp2_with fail
  refine (rgcd_calls _ _ _ _ _ _ _ _ _ (ha.below hBa) (hb.below hBa) (by omega) (by omega)).mono ?_
  rintro e w4 ⟨A4, c4, rfl, h4, hB4⟩
  have hBb := below_step hBa hB4
  go_wp2_with fail
  refine (same_calls _ _ _ _ _ _ _ (h3.below hB4).sl h4.sl).mono ?_
  rintro e w5 ⟨rfl, hd5⟩
  have hBc := below_drawn hBb hd5
  have hx5 := ((hx2.below hB3).below hB4).drawn hd5
  have hy5 := ((hy.below hB3).below hB4).drawn hd5
  go_wp2_with fail
  refine (root_calls _ _ _ _ _ (Row.prefix_ (r := [77, 78, 79]) hx5).sl (by omega)).mono ?_
  rintro e w6 ⟨A6, c6, rfl, h6, hB6⟩
  have hBd := below_step hBc hB6
  go_wp2_with fail
  refine (rroot_calls _ _ _ _ _ (ha.below hBd) (by omega)).mono ?_
  rintro e w7 ⟨A7, c7, rfl, h7, hB7⟩
  have hBe := below_step hBd hB7
  go_wp2_with fail
  refine (same_calls _ _ _ _ _ _ _ (h6.below hB7).sl h7.sl).mono ?_
  rintro e w8 ⟨rfl, hd8⟩
  have hBf := below_drawn hBe hd8
  have hx8 := ((hx5.below hB6).below hB7).drawn hd8
  have hy8 := ((hy5.below hB6).below hB7).drawn hd8
  go_wp2_with fail
  refine (kept_calls _ _ g1 c1 n A c la hx8 (ha.below hBf) (by omega)).mono ?_
  rintro e w9 ⟨rfl, hd9⟩
  have hBg := below_drawn hBf hd9
  go_wp2_with fail
  refine (kept_calls _ _ g2 c2 n' A' c' lb (hy8.drawn hd9) (hb.below hBg) (by omega)).mono ?_
  rintro e w10 ⟨rfl, hd10⟩
  have hBh := below_drawn hBg hd10
  go_wp2_with fail
  refine (awake_calls _).mono ?_
  rintro e w11 ⟨rfl, hB11⟩
  go_wp2
  go_ret
  exact ⟨rfl, below_step hBh hB11⟩

set_option maxHeartbeats 2000000 in
theorem natDivides_zero (w : World) (A : Option Addr) (n c : Nat) (la : List Int) (A' : Option Addr) (n' c' : Nat) (lb : List Int) (ha : Sl w A n c la) (hb : Sl w A' n' c' lb) (hs : n ≤ 35184372087808) (hs' : n' ≤ 35184372087808) (h0 : val lb = 0) :
    Calls Try.prog 7 #[.slice A n c, .slice A' n' c'] w (RetTrue w) := by
  have e1 := Lib.hid (show blen (val lb) = 0 by rw [h0]; rfl)
  go_enter Try.func7, Try.ntmps7
  go_wp2_with fail
  refine (awake_calls _).mono ?_
  rintro e w1 ⟨rfl, hB1⟩
  go_wp2_with fail
  refine (div_zero _ _ _ _ _ _ _ _ _ (ha.below hB1) (hb.below hB1) h0).mono ?_
  rintro e w' ⟨rfl, rfl⟩
  go_wp2_with fail
  refine (bits_calls _ _ _ _ _ (hb.below hB1)).mono ?_
  rintro e w' ⟨rfl, rfl⟩
  rw [e1.out]
  have hg := gcd_calls w1 _ _ _ _ _ _ _ _ (ha.below hB1) (hb.below hB1) (by omega) (by omega)
  rw [h0, Nat.gcd_zero_right] at hg
  replace hg := Lib.hid hg
  clear h0
  go_wp2_with fail
  refine hg.out.mono ?_
  rintro e w2 ⟨A2, c2, rfl, h2, hB2⟩
  have hB := below_step hB1 hB2
  go_wp2_with fail
  refine (norm_calls _ _ _ _ _ (ha.below hB) (by omega)).mono ?_
  rintro e w3 ⟨A3, c3, rfl, h3, hB3⟩
  go_wp2_with fail
  refine (same_calls _ _ _ _ _ _ _ (h2.below hB3).sl h3.sl).mono ?_
  rintro e w4 ⟨rfl, hd4⟩
  go_wp2
  go_ret
  exact ⟨rfl, below_drawn (below_step hB hB3) hd4⟩

theorem len_le_of {N M k : Nat} (h : N ≤ M) {l : List Int} (hl : Lim l) (hv : val l = M) (hk : l.length ≤ k) : (digs N).length ≤ k := by
  subst hv
  exact Nat.le_trans (digs_len_lt_mono h (digs_val_len hl)) hk

theorem next_len {N k : Nat} (h : (digs N).length ≤ k) : (digs (N + 1)).length ≤ k + 1 := digs_len_le (by
  have h2 : N < 4294967296 ^ k := digs_len_lt_iff.1 h
  rw [Nat.pow_succ]
  omega)

set_option maxHeartbeats 4000000 in
theorem natDivides_pos (w : World) (A : Option Addr) (n c : Nat) (la : List Int) (A' : Option Addr) (n' c' : Nat) (lb : List Int) (ha : Sl w A n c la) (hb : Sl w A' n' c' lb) (hs : n ≤ 35184372087808) (hs' : n' ≤ 35184372087808) (h0 : 0 < val lb) :
    Calls Try.prog 7 #[.slice A n c, .slice A' n' c'] w (RetTrue w) := by
  have hal := ha.len
  have hbl := hb.len
  have hql : (digs (val la / val lb)).length ≤ 35184372087808 := len_le_of (Nat.div_le_self _ _) ha.lim rfl (by omega)
  have hrl : (digs (val la % val lb)).length ≤ 35184372087808 := len_le_of (Nat.mod_le _ _) ha.lim rfl (by omega)
  have hgpos : 0 < Nat.gcd (val la) (val lb) := Nat.gcd_pos_of_pos_right _ h0
  have hgl : (digs (Nat.gcd (val la) (val lb))).length ≤ 35184372087808 := len_le_of (Nat.gcd_le_right _ h0) hb.lim rfl (by omega)
  have hrootl : (digs (rootN (val la))).length ≤ 35184372087808 := len_le_of (rootN_le _) ha.lim rfl (by omega)
  have hnextl := next_len hrootl
  have hbits := Lib.hid (show 0 < blen (val lb) from blen_pos h0)
  have hne : ((blen (val lb) : Int) == 0) = false := beq_eq_false_iff_ne.2 (by have := hbits.out; omega)
  have hdm : val la / val lb * val lb + val la % val lb = val la := by rw [Nat.mul_comm]; exact Nat.div_add_mod _ _
  have hdm := Lib.hid hdm
  obtain ⟨hr1, hr2⟩ := rootN_spec (val la)
  go_enter Try.func7, Try.ntmps7
  go_wp2_with fail
  refine (awake_calls _).mono ?_
  rintro e w1 ⟨rfl, hB1⟩
  go_wp2_with fail
  refine (div_calls _ _ _ _ _ _ _ _ _ (ha.below hB1) (hb.below hB1) h0 (by omega)).mono ?_
  rintro e w2 ⟨Aq, cq, Ar, cr, rfl, hq, hr, _, hB2⟩
  have hBa := below_step hB1 hB2
  go_wp2_with fail
  refine (bits_calls _ _ _ _ _ (hb.below hBa)).mono ?_
  rintro e w' ⟨rfl, rfl⟩
  have hcmp := cmp_calls w2 _ _ _ _ _ _ _ _ hr.sl (hb.below hBa)
  rw [val_digs, cmpN_lt (Nat.mod_lt _ h0)] at hcmp
  replace hcmp := Lib.hid hcmp
  go_wp2_with fail
  refine hcmp.out.mono ?_
  rintro e w3 ⟨rfl, hd3⟩
  have hBb := below_drawn hBa hd3
  go_wp2_with fail
  refine (mul_calls _ _ _ _ _ _ _ _ _ (hq.drawn hd3).sl (hb.below hBb) (by omega)).mono ?_
  rintro e w4 ⟨A4, c4, rfl, h4, hB4⟩
  rw [val_digs] at h4 ⊢
  have hBc := below_step hBb hB4
  have hpl : (digs (val la / val lb * val lb)).length ≤ 35184372087808 := len_le_of (by have := hdm.out; omega) ha.lim rfl (by omega)
  go_wp2_with fail
  refine (add_calls _ _ _ _ _ _ _ _ _ h4.sl ((hr.drawn hd3).below hB4).sl (by omega) (by omega) (val la) (by rw [val_digs, val_digs]; exact hdm.out)).mono ?_
  rintro e w5 ⟨A5, c5, rfl, h5, hB5⟩
  have hBd := below_step hBc hB5
  go_wp2_with fail
  refine (norm_calls _ _ _ _ _ (ha.below hBd) (by omega)).mono ?_
  rintro e w6 ⟨A6, c6, rfl, h6, hB6⟩
  have hBe := below_step hBd hB6
  go_wp2_with fail
  refine (same_calls _ _ _ _ _ _ _ (h5.below hB6).sl h6.sl).mono ?_
  rintro e w7 ⟨rfl, hd7⟩
  have hBf := below_drawn hBe hd7
  go_wp2_with fail
  refine (gcd_calls w7 _ _ _ _ _ _ _ _ (ha.below hBf) (hb.below hBf) (by omega) (by omega)).mono ?_
  rintro e w8 ⟨A8, c8, rfl, h8, hB8⟩
  have hBg := below_step hBf hB8
  have hdiv1 := div_calls w8 _ _ _ _ _ _ _ _ (ha.below hBg) h8.sl (by rw [val_digs]; exact hgpos) (by omega)
  rw [val_digs, Nat.mod_eq_zero_of_dvd (Nat.gcd_dvd_left _ _)] at hdiv1
  replace hdiv1 := Lib.hid hdiv1
  go_wp2_with fail
  refine hdiv1.out.mono ?_
  rintro e w9 ⟨Au, cu, Av, cv, rfl, hu, hv, _, hB9⟩
  have hBh := below_step hBg hB9
  have e0 := Lib.hid (show (digs 0).length = 0 by rw [digs_zero]; rfl)
  rw [e0.out]
  have hdiv2 := div_calls w9 _ _ _ _ _ _ _ _ (hb.below hBh) (h8.below hB9).sl (by rw [val_digs]; exact hgpos) (by omega)
  rw [val_digs, Nat.mod_eq_zero_of_dvd (Nat.gcd_dvd_right _ _)] at hdiv2
  replace hdiv2 := Lib.hid hdiv2
  clear hdiv1 hcmp
  go_wp2_with fail
  refine hdiv2.out.mono ?_
  rintro e w10 ⟨As, cs, At, ct, rfl, hs1, ht, _, hB10⟩
  have hBi := below_step hBh hB10
  rw [e0.out]
  clear hdiv2
  go_wp2_with fail
  refine (root_calls _ _ _ _ _ (ha.below hBi) (by omega)).mono ?_
  rintro e w11 ⟨A11, c11, rfl, h11, hB11⟩
  have hBj := below_step hBi hB11
  go_wp2_with fail
  have hL := Row.lit1 w11 (x := 1) (by omega) (by omega)
  have hBk := hBj.alloc hBj.size (.cells #[.int .u32 1] 31)
  refine (add_calls _ _ _ _ _ _ _ _ _ (h11.alloc _).sl hL.toOwn.sl (by omega) (by omega) (rootN (val la) + 1) (by rw [val_digs]; rfl)).mono ?_
  rintro e w12 ⟨A12, c12, rfl, h12, hB12⟩
  have hBl := below_step hBk hB12
  have h11b := (h11.alloc (.cells #[.int .u32 1] 31)).below hB12
  go_wp2_with fail
  refine (mul_calls _ _ _ _ _ _ _ _ _ h11b.sl h11b.sl (by omega)).mono ?_
  rintro e w13 ⟨A13, c13, rfl, h13, hB13⟩
  rw [val_digs] at h13 ⊢
  have hBm := below_step hBl hB13
  have hcm1 := cmp_calls w13 _ _ _ _ _ _ _ _ h13.sl (ha.below hBm)
  rw [val_digs] at hcm1
  have hc1 : cmpN (rootN (val la) * rootN (val la)) (val la) ≤ 0 := by unfold cmpN; split <;> (try split) <;> omega
  generalize cmpN (rootN (val la) * rootN (val la)) (val la) = cv1 at *
  replace hcm1 := Lib.hid hcm1
  go_wp2_with fail
  refine hcm1.out.mono ?_
  rintro e w14 ⟨rfl, hd14⟩
  have hBn := below_drawn hBm hd14
  go_wp2_with fail
  refine (mul_calls _ _ _ _ _ _ _ _ _ ((h12.below hB13).drawn hd14).sl ((h12.below hB13).drawn hd14).sl (by omega)).mono ?_
  rintro e w15 ⟨A15, c15, rfl, h15, hB15⟩
  rw [val_digs] at h15 ⊢
  have hBo := below_step hBn hB15
  have hcm2 := cmp_calls w15 _ _ _ _ _ _ _ _ h15.sl (ha.below hBo)
  rw [val_digs, cmpN_gt hr2] at hcm2
  replace hcm2 := Lib.hid hcm2
  go_wp2_with fail
  refine hcm2.out.mono ?_
  rintro e w16 ⟨rfl, hd16⟩
  go_wp2
  go_ret
  exact ⟨rfl, below_drawn hBo hd16⟩

theorem natDivides_law (w : World) (A : Option Addr) (n c : Nat) (la : List Int) (A' : Option Addr) (n' c' : Nat) (lb : List Int) (ha : Sl w A n c la) (hb : Sl w A' n' c' lb) (hs : n ≤ 35184372087808) (hs' : n' ≤ 35184372087808) :
    Calls Try.prog 7 #[.slice A n c, .slice A' n' c'] w (RetTrue w) := by
  rcases Nat.eq_zero_or_pos (val lb) with h | h
  · exact natDivides_zero w A n c la A' n' c' lb ha hb hs hs' h
  · exact natDivides_pos w A n c la A' n' c' lb ha hb hs hs' h
end Go.Proofs.Ytgjakbhfahehfaa
