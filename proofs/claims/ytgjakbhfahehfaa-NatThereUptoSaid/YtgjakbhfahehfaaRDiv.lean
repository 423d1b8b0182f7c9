/- The reference's Div. -/
import Derived.Test.YtgjakbhfahehfaaRShift
import Derived.Test.YtgjakbhfahehfaaNum7
import Derived.Test.YtgjakbhfahehfaaDiv
namespace Go.Proofs.Ytgjakbhfahehfaa
open Go.RowKit

def RetDivR (q r : Nat) (w : World) (e : Ending) (w' : World) : Prop := ∃ A c A' c', e = .returned (.tuple #[.slice A (digs q).length c, .slice A' (digs r).length c', .int .i64 0]) ∧
  Own w' w.heap.size A (digs q).length c (digs q) ∧ Own w' w.heap.size A' (digs r).length c' (digs r) ∧ Below w.heap.size w w'

set_option maxHeartbeats 1000000 in
theorem rdiv_zero (w : World) (A : Option Addr) (n c : Nat) (A' : Option Addr) (n' c' : Nat) (lb : List Int) (hb : Sl w A' n' c' lb) (h0 : val lb = 0) (hs' : n' ≤ 35184372088832) :
    Calls Try.prog 10 #[.slice A n c, .slice A' n' c'] w fun e w' => e = .returned (.tuple #[.slice none 0 0, .slice none 0 0, .int .i64 11]) ∧ Below w.heap.size w w' := by
  have e0 := Lib.hid (show (digs (val lb)).length = 0 by rw [h0, digs_zero]; rfl)
  go_enter Try.func10, Try.ntmps10
  go_wp2_with fail
  refine (rnorm_calls _ _ _ _ _ hb hs').mono ?_
  rintro e w1 ⟨A1, c1, rfl, hO1, hB1⟩
  rw [e0.out]
  go_wp2
  go_ret3
  exact ⟨rfl, hB1⟩

set_option maxHeartbeats 1000000 in
theorem rdiv_one (w : World) (A : Option Addr) (n c : Nat) (la : List Int) (A' : Option Addr) (n' c' : Nat) (lb : List Int) (ha : Sl w A n c la) (hb : Sl w A' n' c' lb) (h1 : (digs (val lb)).length = 1) (hs : n ≤ 35184372088832) (hs' : n' ≤ 35184372088832) :
    Calls Try.prog 10 #[.slice A n c, .slice A' n' c'] w (RetDivR (val la / val lb) (val la % val lb) w) := by
  obtain ⟨hp, hlt, htop⟩ := len_one h1
  have H1 := Lib.hid h1
  clear h1
  go_enter Try.func10, Try.ntmps10
  go_wp2_with fail
  refine (rnorm_calls _ _ _ _ _ hb hs').mono ?_
  rintro e w1 ⟨A1, c1, rfl, hO1, hB1⟩
  rw [H1.out] at hO1 ⊢
  obtain ⟨b, off, rfl, hcb⟩ := hO1.sl.at_ (i := 0) (by omega)
  rw [htop, Nat.add_zero] at hcb
  clear htop
  go_wp2_with fail
  refine (small_calls _ _ _ _ _ (val lb : Int) (ha.below hB1) (by omega) (by omega) hs).mono ?_
  rintro e w2 ⟨A2, c2, rfl, hO, hB2⟩
  rw [Int.toNat_natCast] at hO ⊢
  have hm0 : 0 ≤ (val la : Int) % (val lb : Int) := Int.emod_nonneg _ (by omega)
  have hm1 : (val la : Int) % (val lb : Int) < 4294967296 := by have := Int.emod_lt_of_pos (val la : Int) (show 0 < (val lb : Int) by omega); omega
  go_wp2_with fail
  have hR := Row.lit1 w2 (x := (val la : Int) % (val lb : Int)) hm0 hm1
  refine (rnorm_calls _ _ _ _ _ hR.toOwn.sl (by omega)).mono ?_
  rintro e w3 ⟨A3, c3, rfl, hO3, hB3⟩
  have hv : val [(val la : Int) % (val lb : Int)] = val la % val lb := by rw [val_one, ← Int.natCast_emod, Int.toNat_natCast]
  rw [hv] at hO3 ⊢
  go_wp2
  go_ret3
  have hS := (below_step hB1 hB2)
  have hS2 := hS.alloc hS.size (.cells #[.int .u32 ((val la : Int) % (val lb : Int))] 31)
  exact ⟨A2, c2, A3, c3, rfl, ((hO.base hB1.size).alloc _).below hB3, hO3.base hS2.size, below_step hS2 hB3⟩

set_option maxHeartbeats 4000000 in
set_option maxRecDepth 100000 in
theorem rdiv_long (w : World) (A : Option Addr) (n0 c : Nat) (la : List Int) (A' : Option Addr) (n' c' : Nat) (lb : List Int) (ha : Sl w A n0 c la) (hb : Sl w A' n' c' lb) (n : Nat) (h1 : (digs (val lb)).length = n + 1) (hn : 0 < n) (hs : n0 ≤ 35184372088829) (hs' : n' ≤ 35184372088829) :
    Calls Try.prog 10 #[.slice A n0 c, .slice A' n' c'] w (RetDivR (val la / val lb) (val la % val lb) w) := by
  have htop := top_ne_zero h1
  have hty := (digs_lim (val lb)).getD n
  have hb1 := blen_top (digs_lim (val lb)) h1 htop
  rw [val_digs] at hb1
  obtain ⟨s, hs1⟩ : ∃ s, s + blen ((digs (val lb)).getD n 0).toNat = 32 := ⟨32 - blen ((digs (val lb)).getD n 0).toNat, by have := blen_le_iff.2 (show ((digs (val lb)).getD n 0).toNat < 2 ^ 32 by omega); omega⟩
  have hs31 : s ≤ 31 := by have := blen_pos (show 0 < ((digs (val lb)).getD n 0).toNat by omega); omega
  obtain ⟨hvl, hvg⟩ := norm_len h1 hs1
  have hse := Lib.hid (show 32 * ((n : Int) + 1) - (blen (val lb) : Int) = (s : Int) by omega)
  have hn1 : n + 1 ≤ 35184372088829 := by have := digs_val_len hb.lim; have := hb.len; omega
  have hbl : blen (val lb) ≤ 32 * (n + 1) := by omega
  have H1 := Lib.hid h1
  have Hvl := Lib.hid hvl
  have hup1 : (digs (2 ^ s)).length ≤ 1 := digs_len_le (by rw [Nat.pow_one]; exact Nat.lt_of_lt_of_le (Nat.pow_lt_pow_right (by omega) (show s < 32 by omega)) (by omega))
  have hvp : 0 < val lb * 2 ^ s := by
    have := Nat.pow_pos (n := n) (show 0 < 4294967296 by omega)
    omega
  clear htop hty hb1 hs1 hvg h1 hvl
  have hne : ((n : Int) == 0) = false := beq_eq_false_iff_ne.2 (by omega)
  have hne1 : ((n : Int) + 1 == 1) = false := beq_eq_false_iff_ne.2 (by omega)
  have hne0 : ((n : Int) + 1 == 0) = false := beq_eq_false_iff_ne.2 (by omega)
  go_enter Try.func10, Try.ntmps10
  go_wp2_with fail
  refine (rnorm_calls _ _ _ _ _ hb (by omega)).mono ?_
  rintro e w1 ⟨A1, c1, rfl, hO1, hB1⟩
  rw [H1.out] at hO1 ⊢
  have hbits := rbits_calls w1 A1 (n + 1) c1 _ hO1.sl
  rw [val_digs] at hbits
  go_wp2_with fail
  refine hbits.mono ?_
  rintro e w2 ⟨rfl, rfl⟩
  go_wp2_with fail
  rw [hse.out]
  refine (two_calls w1 s (by omega)).mono ?_
  rintro e w2 ⟨A2, c2, rfl, hO2, hB2⟩
  have hBs2 := below_step hB1 hB2
  go_wp2_with fail
  refine (rmul_calls _ _ _ _ _ _ _ _ _ (ha.below hBs2) hO2.sl (by omega)).mono ?_
  rintro e w3 ⟨A3, c3, rfl, hO3, hB3⟩
  rw [val_digs] at hO3 ⊢
  have hBs3 := below_step hBs2 hB3
  go_wp2_with fail
  refine (rmul_calls _ _ _ _ _ _ _ _ _ ((hO1.below hB2).below hB3).sl (hO2.below hB3).sl (by omega)).mono ?_
  rintro e w4 ⟨A4, c4, rfl, hO4, hB4⟩
  rw [val_digs, val_digs, Hvl.out] at hO4 ⊢
  have hBs4 := below_step hBs3 hB4
  have hU := (hO3.below hB4).sl
  have hD := (((hO1.below hB2).below hB3).below hB4).sl
  have hV := hO4.sl
  have hus := hU.small
  have ha0 := ha.lim
  have hal := ha.len
  clear hO1 hO2 hO3 hO4 hB1 hB2 hB3 hB4 hBs2 hBs3 ha hb hbits
  go_wp2_with (at_make; refine make_u32 _ rfl _ _ rfl ((digs (val la * 2 ^ s)).length) _ _ _ _ rfl rfl ?_ ?_ ?_ ?_; (iterate 3 omega); intro w5 hRq hBq)
  have hlu : (digs (val la * 2 ^ s)).length ≤ n0 + 1 := digs_len_le (by
    rw [Nat.pow_succ]
    have h1 := val_lt ha0
    rw [hal] at h1
    have h2 : 2 ^ s ≤ 4294967296 := Nat.le_trans (Nat.pow_le_pow_right (by omega) (show s ≤ 32 by omega)) (by omega)
    exact Nat.mul_lt_mul_of_lt_of_le h1 h2 (by omega))
  replace hlu : (digs (val la * 2 ^ s)).length ≤ 35184372088830 := by omega
  have hinv0 := Lib.hid (RDivInv.start (U := digs (val la * 2 ^ s)) (V := val (digs (val lb * 2 ^ s))) (by rw [val_digs]; exact hvp) _ rfl)
  have hVtop : 0 < (digs (val lb * 2 ^ s)).getD n 0 := by have := top_ne_zero Hvl.out; have := (digs_lim (val lb * 2 ^ s)).getD n; omega
  have hfin := Lib.hid (div_shift (val la) (val lb) s)
  have hUv := Lib.hid (val_digs (val la * 2 ^ s))
  have hVv := Lib.hid (val_digs (val lb * 2 ^ s))
  generalize digs (val la * 2 ^ s) = U at *
  generalize digs (val lb * 2 ^ s) = V at *
  clear hvp Hvl
  go_loopw [14, 15] (fun rv iv wr => ∃ (k R : Nat) (Q : List Int) (Ar : Option Addr) (cr : Nat), k ≤ U.length ∧ rv = .slice Ar (digs R).length cr ∧ iv = .int .i64 (k - 1) ∧ Hid (RDivInv U (val V) R Q k) ∧ Own wr (w4.heap.size + 1) Ar (digs R).length cr (digs R) ∧ Row wr w4.heap.size w4.heap.size U.length U.length Q ∧ Below w4.heap.size w4 wr) (fun _ iv _ => (intOf iv + 1).toNat)
  case atStart => exact ⟨U.length, 0, _, none, 0, Nat.le_refl _, by rw [digs_zero]; rfl, by go_num, hinv0, by rw [digs_zero]; exact Own.nil _ _, hRq, hBq⟩
  case round =>
    clear hRq hBq hinv0
    obtain ⟨k, R, Q, Ar, cr, hk, rfl, rfl, hinv, hO, hRq, hB⟩ := hrel
    by_cases hk0 : k = 0
    · subst hk0
      obtain ⟨hq, hr⟩ := hinv.out.last
      rw [hUv.out, hVv.out, hfin.out.1] at hq
      rw [hUv.out, hVv.out] at hr
      have hr2 := hfin.out.2
      rw [← hr] at hr2
      replace hq := Lib.hid hq
      replace hr2 := Lib.hid hr2
      have hDr := hD.below hB
      have hbits := rbits_calls wr A1 (n + 1) c1 _ hDr
      rw [val_digs] at hbits
      have hshr := rshr_calls wr Ar _ cr _ s hO.sl (Nat.le_trans (digs_len_mono (Nat.le_of_lt hinv.out.lt)) (by have := digs_val_len hV.lim; have := hV.len; omega)) (by omega)
      rw [val_digs, hr2.out] at hshr
      replace hbits := Lib.hid hbits
      replace hshr := Lib.hid hshr
      clear hr
      go_wp2_with fail
      refine hbits.out.mono ?_
      rintro e w' ⟨rfl, rfl⟩
      go_wp2_with fail
      rw [hse.out]
      refine hshr.out.mono ?_
      rintro e w8 ⟨A8, c8, rfl, hO8, hB8⟩
      go_wp2_with fail
      refine (rnorm_calls _ _ _ _ _ (hRq.below hB8).toOwn.sl (by omega)).mono ?_
      rintro e w9 ⟨A9, c9, rfl, hO9, hB9⟩
      rw [hq.out] at hO9 ⊢
      go_wp2
      go_ret3
      have hBa := below_step hBs4 hB
      have hBb := below_step hBa hB8
      exact ⟨_, _, _, _, rfl, hO9.base hBb.size, (hO8.base hBa.size).below hB9, below_step hBb hB9⟩
    · obtain ⟨i, rfl⟩ : ∃ i, k = i + 1 := ⟨k - 1, by omega⟩
      clear hk0
      have ei : ((i + 1 : Nat) : Int) - 1 = i := by omega
      rw [ei]
      clear ei
      obtain ⟨b, off, rfl, hcU⟩ := (hU.below hB).at_ (i := i) (by omega)
      have hx := hU.lim.getD i
      have hRlen : (digs R).length ≤ 35184372088829 := Nat.le_trans (digs_len_mono (Nat.le_of_lt hinv.out.lt)) (by have := digs_val_len hV.lim; have := hV.len; omega)
      obtain ⟨R', hRe⟩ : ∃ R', (U.getD i 0).toNat + 4294967296 * R = R' := ⟨_, rfl⟩
      have hval := Lib.hid (show val ([U.getD i 0] ++ digs R) = R' by rw [← hRe]; show (U.getD i 0).toNat + 4294967296 * val (digs R) = _; rw [val_digs])
      have hbound := hinv.out.bound hU.lim
      rw [hRe] at hbound
      have hskip := hinv.out.skip (by omega) (by rw [hRq.len]; omega)
      rw [hRe] at hskip
      replace hskip := Lib.hid hskip
      replace hRe := Lib.hid hRe
      have hgb := hRq.lt
      generalize hxe : U.getD i 0 = x at *
      have hxe' := Lib.hid hxe
      clear hxe
      have hL := Row.lit1 wr hx.1 hx.2
      go_wp2_with (at_builtin; refine append_u32 _ rfl _ _ rfl wr.heap.size (some ⟨wr.heap.size, 0, none⟩) 1 1 [x] Ar (digs R).length cr (digs R) rfl rfl hL.toOwn (hO.sl.alloc _) ?_ ?_ ?_; omega; simp; intro A6 c6 w6 hO6 hg6 hat6; have hB6 := below_append (hB.alloc hB.size _) hL.toOwn hB.size hg6; have hRq6 := (hRq.alloc (.cells #[.int .u32 x] 31)).keptAppend hgb.2 hL.toOwn hg6)
      refine (rnorm_calls _ _ _ _ _ hO6.sl (by omega)).mono ?_
      rintro e w7 ⟨A7, c7, rfl, hO7, hB7⟩
      rw [hval.out] at hO7 ⊢
      have hB47 := below_step hB6 hB7
      have hRq7 := hRq6.below hB7
      replace hO7 := hO7.base (show w4.heap.size + 1 ≤ w6.heap.size by have := hRq6.lt.2; omega)
      have hV7 := hV.below hB47
      have hcmp := rcmp_calls w7 A7 _ c7 _ A4 _ c4 _ hO7.sl hV7
      rw [val_digs] at hcmp
      by_cases hlt : R' < val V
      · rw [cmpN_lt hlt] at hcmp
        replace hcmp := Lib.hid hcmp
        have hnew := Lib.hid (hskip.out hlt)
        go_wp2_with fail
        refine hcmp.out.mono ?_
        rintro e w' ⟨rfl, rfl⟩
        clear hskip hlt hbound
        go_wp2
        go_roundw
        case rel => exact ⟨i, R', Q, _, _, by omega, rfl, rfl, hnew, hO7, hRq7, hB47⟩
        case measure => simp [intOf] <;> omega
      · have hc0 : 0 ≤ cmpN R' (val V) := by unfold cmpN; split <;> (try split) <;> omega
        generalize cmpN R' (val V) = cv at *
        replace hcmp := Lib.hid hcmp
        obtain ⟨hg0, hg1, hup⟩ := rguess hV.lim hV.len hVtop hbound
        have l1 := Lib.hid (limb_calls w7 A7 _ c7 _ ((n : Int) + 1) hO7.sl (by omega))
        have l2 := Lib.hid (limb_calls w7 A7 _ c7 _ (n : Int) hO7.sl (by omega))
        have l3 := Lib.hid (limb_calls w7 A4 _ c4 _ (n : Int) hV7 (by omega))
        rw [show ((n : Int) + 1).toNat = n + 1 by omega] at l1
        rw [Int.toNat_natCast] at l2 l3
        have hy1 := (digs_lim R').getD (n + 1)
        have hy0 := (digs_lim R').getD n
        have hv := hV.lim.getD n
        have hvt := hVtop
        have hRl : (digs R').length ≤ 35184372088832 := Nat.le_trans (digs_len_le (k := n + 2) (by
          have h1 := val_lt hV.lim
          rw [hV.len] at h1
          rw [show n + 2 = n + 1 + 1 by omega, Nat.pow_succ]
          omega)) (by omega)
        generalize (digs R').getD (n + 1) 0 = y1 at *
        generalize (digs R').getD n 0 = y0 at *
        generalize V.getD n 0 = v1 at *
        have hdn : 0 ≤ (y1 * 4294967296 + y0) / v1 := Int.ediv_nonneg (by omega) (by omega)
        clear hskip hlt
        go_wp2_with fail
        refine hcmp.out.mono ?_
        rintro e w' ⟨rfl, rfl⟩
        go_wp2_with fail
        refine l1.out.mono ?_
        rintro e w' ⟨rfl, rfl⟩
        go_wp2_with fail
        refine l2.out.mono ?_
        rintro e w' ⟨rfl, rfl⟩
        go_wp2_with fail
        refine l3.out.mono ?_
        rintro e w' ⟨rfl, rfl⟩
        clear l1 l2 l3
        by_cases hbig : 4294967296 ≤ (y1 * 4294967296 + y0) / v1
        · rw [Int.min_eq_right (by omega)] at hup
          replace hup := Lib.hid hup
          go_wp2_with fail
          have hLg := Row.lit1 w7 (x := 4294967295) (by omega) (by omega)
          refine (rmul_calls _ _ _ _ _ _ _ _ _ (hV7.alloc _) hLg.toOwn.sl (by omega)).mono ?_
          rintro e w8 ⟨A8, c8, rfl, hO8, hB8⟩
          rw [val_one] at hO8 ⊢
          have hB48 := below_step (hB47.alloc hB47.size (.cells #[.int .u32 (4294967295)] 31)) hB8
          have hsz8 : w4.heap.size + 1 ≤ (w7.alloc (.cells #[.int .u32 (4294967295)] 31)).heap.size := by have := hRq7.lt.2; simp; omega
          have hRq8 := (hRq7.alloc (.cells #[.int .u32 (4294967295)] 31)).below hB8
          have hR8 := (hO7.alloc (.cells #[.int .u32 (4294967295)] 31)).below hB8
          go_wp2
          go_loopw [16, 17] (fun gv pv wz => ∃ (g : Int) (Ap : Option Addr) (cp : Nat), 0 ≤ g ∧ g < 4294967296 ∧ gv = .int .u64 g ∧ pv = .slice Ap (digs (val V * g.toNat)).length cp ∧ Hid (R' < (g.toNat + 1) * val V) ∧ Own wz (w4.heap.size + 1) Ap (digs (val V * g.toNat)).length cp (digs (val V * g.toNat)) ∧ Row wz w4.heap.size w4.heap.size U.length U.length Q ∧ Own wz (w4.heap.size + 1) A7 (digs R').length c7 (digs R') ∧ Below w4.heap.size w4 wz) (fun gv _ _ => (intOf gv).toNat)
          case atStart => exact ⟨4294967295, _, _, by omega, by omega, rfl, rfl, hup, hO8.base hsz8, hRq8, hR8, hB48⟩
          case round =>
            clear hRq8 hR8 hB48 hO8
            obtain ⟨g, Ap, cp, hg0, hg1, rfl, rfl, hgu, hOp, hRqz, hRz, hBz⟩ := hrel
            have hVz := hV.below hBz
            have hcm := rcmp_calls wr Ap _ cp _ A7 _ c7 _ hOp.sl hRz.sl
            rw [val_digs, val_digs] at hcm
            have hpl : (digs (val V * g.toNat)).length ≤ 35184372088832 := Nat.le_trans (digs_len_le (k := n + 2) (by
              have h1 := val_lt hV.lim
              rw [hV.len] at h1
              have h2 : val V * g.toNat ≤ val V * 4294967296 := Nat.mul_le_mul_left _ (by omega)
              rw [show n + 2 = n + 1 + 1 by omega, Nat.pow_succ]
              omega)) (by omega)
            by_cases hgt : R' < val V * g.toNat
            · rw [cmpN_gt hgt] at hcm
              have hgp : 0 < g := by
                rcases Int.lt_or_le 0 g with h | h
                · exact h
                · rw [show g = 0 by omega] at hgt; simp at hgt
              have hsub : val V * g.toNat - val V = val V * (g.toNat - 1) := by
                obtain ⟨G, hG⟩ : ∃ G, g.toNat = G + 1 := ⟨g.toNat - 1, by omega⟩
                rw [hG, Nat.add_sub_cancel, Nat.mul_add, Nat.mul_one, Nat.add_sub_cancel]
              have hgn := Lib.hid (show R' < (g.toNat - 1 + 1) * val V by rw [show g.toNat - 1 + 1 = g.toNat by omega, Nat.mul_comm]; exact hgt)
              have Hgm := Lib.hid (show (g - 1).toNat = g.toNat - 1 by omega)
              have hle := rless_calls wr Ap _ cp _ A4 _ c4 _ hOp.sl hVz hpl (by rw [val_digs]; have : val V * 1 ≤ val V * g.toNat := Nat.mul_le_mul_left _ (by omega); omega)
              rw [val_digs, hsub] at hle
              replace hle := Lib.hid hle
              replace hcm := Lib.hid hcm
              clear hsub hgt hgu
              go_wp2_with fail
              refine hcm.out.mono ?_
              rintro e w' ⟨rfl, rfl⟩
              go_wp2_with fail
              refine hle.out.mono ?_
              rintro e w9 ⟨A9, c9, rfl, hO9, hB9⟩
              go_wp2
              go_roundw
              case rel => exact ⟨g - 1, _, _, by omega, by omega, rfl, by rw [Hgm.out], by rw [Hgm.out]; exact hgn, by rw [Hgm.out]; exact hO9.base (by have := hRqz.lt.2; omega), hRqz.below hB9, hRz.below hB9, below_step hBz hB9⟩
              case measure => simp [intOf] <;> omega
            · have hc0 : cmpN (val V * g.toNat) R' ≤ 0 := by unfold cmpN; split <;> (try split) <;> omega
              generalize cmpN (val V * g.toNat) R' = cv at *
              replace hcm := Lib.hid hcm
              obtain ⟨hq, hr⟩ := div_of_bounds (R := R') (V := val V) (g := g.toNat) (by rw [Nat.mul_comm]; omega) hgu.out
              have hgq : g = ((R' / val V : Nat) : Int) := by omega
              have hcQ := hRqz.cell i (by omega)
              have hfQ := hRqz.frozen i
              have hsz := hRqz.lt
              have hZ := Row.stored hRqz i hg0 hg1
              have hBZ := hBz.setCell (p := ⟨w4.heap.size, i, none⟩) (Nat.le_refl _) (.int .u32 g)
              have hle2 := rless_calls (wr.setCell ⟨w4.heap.size, i, none⟩ (.int .u32 g)) A7 _ c7 _ Ap _ cp _ (hRz.setLow (Nat.lt_succ_self _) _ _).sl (hOp.setLow (Nat.lt_succ_self _) _ _).sl hRl (by rw [val_digs, val_digs]; omega)
              rw [Nat.mul_comm] at hr
              rw [val_digs, val_digs, hr] at hle2
              replace hle2 := Lib.hid hle2
              have hnew := Lib.hid (hinv.out.take hU.lim (by omega) (by rw [hRqz.len]; omega))
              rw [hxe'.out, hRe.out] at hnew
              rw [← hgq] at hnew
              clear hq hr hgq hgt hgu
              go_wp2_with fail
              refine hcm.out.mono ?_
              rintro e w' ⟨rfl, rfl⟩
              go_wp2_with fail
              refine hle2.out.mono ?_
              rintro e w9 ⟨A9, c9, rfl, hO9, hB9⟩
              go_wp2
              go_roundw
              case rel => exact ⟨i, _, _, _, _, by omega, rfl, rfl, hnew, hO9.base (by have := hZ.lt.2; omega), hZ.below hB9, below_step hBZ hB9⟩
              case measure => simp [intOf] <;> omega
        · rw [Int.min_eq_left (by omega)] at hup
          replace hup := Lib.hid hup
          go_wp2_with fail
          have hLg := Row.lit1 w7 (x := (y1 * 4294967296 + y0) / v1) (by omega) (by omega)
          refine (rmul_calls _ _ _ _ _ _ _ _ _ (hV7.alloc _) hLg.toOwn.sl (by omega)).mono ?_
          rintro e w8 ⟨A8, c8, rfl, hO8, hB8⟩
          rw [val_one] at hO8 ⊢
          have hB48 := below_step (hB47.alloc hB47.size (.cells #[.int .u32 ((y1 * 4294967296 + y0) / v1)] 31)) hB8
          have hsz8 : w4.heap.size + 1 ≤ (w7.alloc (.cells #[.int .u32 ((y1 * 4294967296 + y0) / v1)] 31)).heap.size := by have := hRq7.lt.2; simp; omega
          have hRq8 := (hRq7.alloc (.cells #[.int .u32 ((y1 * 4294967296 + y0) / v1)] 31)).below hB8
          have hR8 := (hO7.alloc (.cells #[.int .u32 ((y1 * 4294967296 + y0) / v1)] 31)).below hB8
          go_wp2
          go_loopw [16, 17] (fun gv pv wz => ∃ (g : Int) (Ap : Option Addr) (cp : Nat), 0 ≤ g ∧ g < 4294967296 ∧ gv = .int .u64 g ∧ pv = .slice Ap (digs (val V * g.toNat)).length cp ∧ Hid (R' < (g.toNat + 1) * val V) ∧ Own wz (w4.heap.size + 1) Ap (digs (val V * g.toNat)).length cp (digs (val V * g.toNat)) ∧ Row wz w4.heap.size w4.heap.size U.length U.length Q ∧ Own wz (w4.heap.size + 1) A7 (digs R').length c7 (digs R') ∧ Below w4.heap.size w4 wz) (fun gv _ _ => (intOf gv).toNat)
          case atStart => exact ⟨(y1 * 4294967296 + y0) / v1, _, _, by omega, by omega, rfl, rfl, hup, hO8.base hsz8, hRq8, hR8, hB48⟩
          case round =>
            clear hRq8 hR8 hB48 hO8
            obtain ⟨g, Ap, cp, hg0, hg1, rfl, rfl, hgu, hOp, hRqz, hRz, hBz⟩ := hrel
            have hVz := hV.below hBz
            have hcm := rcmp_calls wr Ap _ cp _ A7 _ c7 _ hOp.sl hRz.sl
            rw [val_digs, val_digs] at hcm
            have hpl : (digs (val V * g.toNat)).length ≤ 35184372088832 := Nat.le_trans (digs_len_le (k := n + 2) (by
              have h1 := val_lt hV.lim
              rw [hV.len] at h1
              have h2 : val V * g.toNat ≤ val V * 4294967296 := Nat.mul_le_mul_left _ (by omega)
              rw [show n + 2 = n + 1 + 1 by omega, Nat.pow_succ]
              omega)) (by omega)
            by_cases hgt : R' < val V * g.toNat
            · rw [cmpN_gt hgt] at hcm
              have hgp : 0 < g := by
                rcases Int.lt_or_le 0 g with h | h
                · exact h
                · rw [show g = 0 by omega] at hgt; simp at hgt
              have hsub : val V * g.toNat - val V = val V * (g.toNat - 1) := by
                obtain ⟨G, hG⟩ : ∃ G, g.toNat = G + 1 := ⟨g.toNat - 1, by omega⟩
                rw [hG, Nat.add_sub_cancel, Nat.mul_add, Nat.mul_one, Nat.add_sub_cancel]
              have hgn := Lib.hid (show R' < (g.toNat - 1 + 1) * val V by rw [show g.toNat - 1 + 1 = g.toNat by omega, Nat.mul_comm]; exact hgt)
              have Hgm := Lib.hid (show (g - 1).toNat = g.toNat - 1 by omega)
              have hle := rless_calls wr Ap _ cp _ A4 _ c4 _ hOp.sl hVz hpl (by rw [val_digs]; have : val V * 1 ≤ val V * g.toNat := Nat.mul_le_mul_left _ (by omega); omega)
              rw [val_digs, hsub] at hle
              replace hle := Lib.hid hle
              replace hcm := Lib.hid hcm
              clear hsub hgt hgu
              go_wp2_with fail
              refine hcm.out.mono ?_
              rintro e w' ⟨rfl, rfl⟩
              go_wp2_with fail
              refine hle.out.mono ?_
              rintro e w9 ⟨A9, c9, rfl, hO9, hB9⟩
              go_wp2
              go_roundw
              case rel => exact ⟨g - 1, _, _, by omega, by omega, rfl, by rw [Hgm.out], by rw [Hgm.out]; exact hgn, by rw [Hgm.out]; exact hO9.base (by have := hRqz.lt.2; omega), hRqz.below hB9, hRz.below hB9, below_step hBz hB9⟩
              case measure => simp [intOf] <;> omega
            · have hc0 : cmpN (val V * g.toNat) R' ≤ 0 := by unfold cmpN; split <;> (try split) <;> omega
              generalize cmpN (val V * g.toNat) R' = cv at *
              replace hcm := Lib.hid hcm
              obtain ⟨hq, hr⟩ := div_of_bounds (R := R') (V := val V) (g := g.toNat) (by rw [Nat.mul_comm]; omega) hgu.out
              have hgq : g = ((R' / val V : Nat) : Int) := by omega
              have hcQ := hRqz.cell i (by omega)
              have hfQ := hRqz.frozen i
              have hsz := hRqz.lt
              have hZ := Row.stored hRqz i hg0 hg1
              have hBZ := hBz.setCell (p := ⟨w4.heap.size, i, none⟩) (Nat.le_refl _) (.int .u32 g)
              have hle2 := rless_calls (wr.setCell ⟨w4.heap.size, i, none⟩ (.int .u32 g)) A7 _ c7 _ Ap _ cp _ (hRz.setLow (Nat.lt_succ_self _) _ _).sl (hOp.setLow (Nat.lt_succ_self _) _ _).sl hRl (by rw [val_digs, val_digs]; omega)
              rw [Nat.mul_comm] at hr
              rw [val_digs, val_digs, hr] at hle2
              replace hle2 := Lib.hid hle2
              have hnew := Lib.hid (hinv.out.take hU.lim (by omega) (by rw [hRqz.len]; omega))
              rw [hxe'.out, hRe.out] at hnew
              rw [← hgq] at hnew
              clear hq hr hgq hgt hgu
              go_wp2_with fail
              refine hcm.out.mono ?_
              rintro e w' ⟨rfl, rfl⟩
              go_wp2_with fail
              refine hle2.out.mono ?_
              rintro e w9 ⟨A9, c9, rfl, hO9, hB9⟩
              go_wp2
              go_roundw
              case rel => exact ⟨i, _, _, _, _, by omega, rfl, rfl, hnew, hO9.base (by have := hZ.lt.2; omega), hZ.below hB9, below_step hBZ hB9⟩
              case measure => simp [intOf] <;> omega
end Go.Proofs.Ytgjakbhfahehfaa
