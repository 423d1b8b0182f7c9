/- nat.Div whole, nat.Gcd, nat.Root -/
import Derived.Test.YtkidgeeedigkhaaDiv
import Derived.Test.YtkidgeeedigkhaaAdd
import Derived.Test.YtkidgeeedigkhaaNum6
namespace Go.Proofs.Ytkidgeeedigkhaa
open Go.RowKit

theorem div_calls (w : World) (A : Option Addr) (n c : Nat) (la : List Int) (A' : Option Addr) (n' c' : Nat) (lb : List Int) (ha : Sl w A n c la) (hb : Sl w A' n' c' lb) (h0 : 0 < val lb) (hs : n ≤ 35184372088829) :
    Calls Try.prog 63 #[.slice A n c, .slice A' n' c'] w (RetDiv (val la / val lb) (val la % val lb) w) := by
  rcases Nat.lt_or_ge (val la) (val lb) with h | h
  · exact div_small w A n c la A' n' c' lb ha hb h (by omega)
  · have hp : (digs (val lb)).length ≠ 0 := fun e => by have := (digs_nil_iff (val lb)).1 (List.eq_nil_of_length_eq_zero e); omega
    by_cases h1 : (digs (val lb)).length = 1
    · exact div_one w A n c la A' n' c' lb ha hb h h1
    · exact div_long w A n c la A' n' c' lb ha hb h ((digs (val lb)).length - 1) (by omega) (by omega) hs

set_option maxHeartbeats 1000000 in
theorem gcd_calls (w : World) (A : Option Addr) (n c : Nat) (la : List Int) (A' : Option Addr) (n' c' : Nat) (lb : List Int) (ha : Sl w A n c la) (hb : Sl w A' n' c' lb) (hs : n ≤ 35184372088829) (hs' : n' ≤ 35184372088829) :
    Calls Try.prog 73 #[.slice A n c, .slice A' n' c'] w (RetNum (Nat.gcd (val la) (val lb)) w) := by
  have hla := digs_val_len ha.lim
  have hlb := digs_val_len hb.lim
  have hla2 := ha.len
  have hlb2 := hb.len
  go_enter Try.func73, Try.ntmps73
  go_wp2_with fail
  refine (norm_calls _ _ _ _ _ ha (by omega)).mono ?_
  rintro e w1 ⟨A1, c1, rfl, hO1, hB1⟩
  go_wp2_with fail
  refine (norm_calls _ _ _ _ _ (hb.below hB1) (by omega)).mono ?_
  rintro e w2 ⟨A2, c2, rfl, hO2, hB2⟩
  have hO3 := (hO1.below hB2)
  have hO4 := hO2.base hB1.size
  have hB := below_step hB1 hB2
  go_wp2
  go_loopg [5, 6] (val lb) (fun g xv yv wr => ∃ (X : Nat) (Ax : Option Addr) (cx : Nat) (Ay : Option Addr) (cy : Nat), xv = .slice Ax (digs X).length cx ∧ yv = .slice Ay (digs g).length cy ∧ Own wr w.heap.size Ax (digs X).length cx (digs X) ∧ Own wr w.heap.size Ay (digs g).length cy (digs g) ∧ Hid (Nat.gcd X g = Nat.gcd (val la) (val lb)) ∧ Hid ((digs X).length ≤ 35184372088829) ∧ Hid ((digs g).length ≤ 35184372088829) ∧ Below w.heap.size w wr)
  case atStart => exact ⟨val la, _, _, _, _, rfl, rfl, hO3, hO4, rfl, Nat.le_trans hla (by omega), Nat.le_trans hlb (by omega), hB⟩
  case round =>
    obtain ⟨X, Ax, cx, Ay, cy, rfl, rfl, hX, hY, hg, hlx, hly, hBr⟩ := hrel
    rcases Nat.eq_zero_or_pos gk with h0 | h0
    · subst h0
      have e0 := Lib.hid (show (digs 0).length = 0 by rw [digs_zero]; rfl)
      have e1 := hg.out
      rw [Nat.gcd_zero_right] at e1
      rw [e0.out]
      go_wp2
      go_ret
      rw [e1] at hX ⊢
      exact ⟨_, _, rfl, hX, hBr⟩
    · have hp : 0 < (digs gk).length := by
        rcases Nat.eq_zero_or_pos (digs gk).length with e | e
        · have := (digs_nil_iff gk).1 (List.eq_nil_of_length_eq_zero e); omega
        · exact e
      have hdiv := div_calls wr Ax (digs X).length cx (digs X) Ay (digs gk).length cy (digs gk) hX.sl hY.sl (by rw [val_digs]; exact h0) hlx.out
      rw [val_digs, val_digs] at hdiv
      have hdiv := Lib.hid hdiv
      go_wp2_with fail
      refine hdiv.out.mono ?_
      rintro e w5 ⟨Aq, cq, Ar, cr, rfl, hq, hr, _, hB5⟩
      clear hdiv hq
      go_wp2
      go_roundg (X % gk)
      case rel => exact ⟨gk, _, _, _, _, rfl, rfl, hY.below hB5, hr.base hBr.size, by unfold Hid; rw [← hg.out, Nat.gcd_comm gk, ← Nat.gcd_rec, Nat.gcd_comm], hly, Nat.le_trans (digs_len_mono (Nat.le_of_lt (Nat.mod_lt _ h0))) hly.out, below_step hBr hB5⟩
      case measure => exact Nat.mod_lt _ h0

theorem pow_len {m k : Nat} (h : m < 32 * k) : (digs (2 ^ m)).length ≤ k := digs_len_le (by rw [pow_B]; exact Nat.pow_lt_pow_right (by omega) h)
theorem digs_len_lt_mono {a b k : Nat} (h : a ≤ b) (hk : (digs b).length ≤ k) : (digs a).length ≤ k := Nat.le_trans (digs_len_mono h) hk

set_option maxHeartbeats 1000000 in
theorem root_calls (w : World) (A : Option Addr) (n c : Nat) (la : List Int) (ha : Sl w A n c la) (hs : n ≤ 35184372088829) :
    Calls Try.prog 58 #[.slice A n c] w (RetNum (rootN (val la)) w) := by
  have hla := digs_val_len ha.lim
  have hla2 := ha.len
  by_cases h0 : val la = 0
  · have e1 := Lib.hid (show blen (val la) = 0 by rw [h0]; rfl)
    have e2 := Lib.hid (show rootN (val la) = 0 by rw [h0, rootN]; rfl)
    clear h0
    go_enter Try.func58, Try.ntmps58
    go_wp2_with fail
    refine (bits_calls _ _ _ _ _ ha).mono ?_
    rintro e w1 ⟨rfl, rfl⟩
    rw [e1.out]
    go_wp2
    go_ret
    exact ⟨none, 0, by rw [e2.out, digs_zero]; rfl, by rw [e2.out, digs_zero]; exact Own.nil _ _, Below.refl _ _⟩
  · have hbp := blen_pos (Nat.pos_of_ne_zero h0)
    have hbl : blen (val la) ≤ 32 * n := blen_le_iff.2 (by rw [← pow_B, ← hla2]; exact val_lt ha.lim)
    have hne : ((blen (val la) : Int) == 0) = false := beq_eq_false_iff_ne.2 (by omega)
    have hlt := root_start (val la)
    go_enter Try.func58, Try.ntmps58
    go_wp2_with fail
    refine (bits_calls _ _ _ _ _ ha).mono ?_
    rintro e w1 ⟨rfl, rfl⟩
    have hR := Row.lit1 w (x := 1) (by omega) (by omega)
    have hB := (Below.refl w.heap.size w).alloc (Nat.le_refl _) (.cells #[.int .u32 1] 62)
    go_wp2_with fail
    refine (bits_calls _ _ _ _ _ (ha.alloc _)).mono ?_
    rintro e w1 ⟨rfl, rfl⟩
    obtain ⟨m, hm⟩ : ∃ m, m = (blen (val la) + 1) / 2 := ⟨_, rfl⟩
    rw [← hm] at hlt
    have hmi : ((blen (val la) : Int) + 1) / 2 = (m : Int) := by omega
    have Hmi := Lib.hid hmi
    have hm2 : 1 + m / 32 + 1 ≤ 35184372088829 := by omega
    clear hmi
    go_wp2_with fail
    rw [Hmi.out]
    have hshl := shl_calls (w.alloc (.cells #[.int .u32 1] 62)) _ 1 1 [1] m hR.toOwn.sl (by omega)
    rw [show val [1] = 1 from rfl, Nat.one_mul] at hshl
    refine hshl.mono ?_
    rintro e w2 ⟨A2, c2, rfl, hO2, hB2⟩
    have hO3 := hO2.base hB.size
    have hB3 := below_step hB hB2
    have hxl : (digs (2 ^ m)).length ≤ 35184372088829 := pow_len (by omega)
    clear hm hshl hR hne hbl hbp
    go_wp2
    go_loopg [3] (2 ^ m) (fun g xv wr => ∃ (Ax : Option Addr) (cx : Nat), xv = .slice Ax (digs g).length cx ∧ Own wr w.heap.size Ax (digs g).length cx (digs g) ∧ Hid (rootN (val la) ≤ g) ∧ Hid (0 < g) ∧ Hid ((digs g).length ≤ 35184372088829) ∧ Below w.heap.size w wr)
    case atStart => exact ⟨_, _, rfl, hO3, Nat.le_of_lt hlt, Nat.pow_pos (by omega), hxl, hB3⟩
    case round =>
      clear hO3 hB3 hB2 hO2 hlt hxl
      obtain ⟨Ax, cx, rfl, hX, hge, hpos, hl, hBr⟩ := hrel
      have hdiv := div_calls wr A n c la Ax (digs gk).length cx (digs gk) (ha.below hBr) hX.sl (by rw [val_digs]; exact hpos.out) hs
      rw [val_digs] at hdiv
      have hdiv := Lib.hid hdiv
      go_wp2_with fail
      refine hdiv.out.mono ?_
      rintro e w5 ⟨Aq, cq, Ar, cr, rfl, hq, hr, _, hB5⟩
      clear hdiv hr
      have hql : (digs (val la / gk)).length ≤ 35184372088829 := digs_len_lt_mono (Nat.div_le_self _ _) (by omega)
      have hlo := hl.out
      go_wp2_with fail
      refine (add_calls _ _ _ _ _ _ _ _ _ (hX.sl.below hB5) hq.sl (by omega) (by omega) _ rfl).mono ?_
      rintro e w6 ⟨As, cs, rfl, hsum, hB6⟩
      rw [val_digs, val_digs] at hsum ⊢
      have hsh := Lib.hid (shr_calls w6 As _ cs _ 1 hsum.sl (by omega))
      go_wp2_with fail
      refine hsh.out.mono ?_
      rintro e w7 ⟨Ay, cy, rfl, hy, hB7⟩
      rw [val_digs, Nat.pow_one] at hy ⊢
      have hge2 := newton_ge (a := val la) hpos.out
      have hend := newton_end (a := val la) hpos.out hge.out
      clear hsh
      generalize (gk + val la / gk) / 2 = y at *
      have hX7 := ((hX.below hB5).below hB6).below hB7
      have hBx := below_step (below_step (below_step hBr hB5) hB6) hB7
      have hcmp := cmp_calls w7 Ay _ cy _ Ax _ cx _ hy.sl hX7.sl
      rw [val_digs, val_digs] at hcmp
      have hy0 := hy.base (base' := w.heap.size) (by have := hBr.size; have := hB5.size; have := hB6.size; omega)
      by_cases hyx : y < gk
      · rw [cmpN_lt hyx] at hcmp
        have hcmp := Lib.hid hcmp
        go_wp2_with fail
        refine hcmp.out.mono ?_
        rintro e w8 ⟨rfl, hd⟩
        go_wp2
        go_roundg y
        case rel => exact ⟨_, _, rfl, by obtain ⟨q, rfl⟩ := hd; exact hy0.drewN q, hge2, Nat.lt_of_lt_of_le (rootN_pos (Nat.pos_of_ne_zero h0)) hge2, digs_len_lt_mono (Nat.le_of_lt hyx) hl.out, below_drawn hBx hd⟩
        case measure => exact hyx
      · have hc0 : 0 ≤ cmpN y gk := by unfold cmpN; split <;> (try split) <;> omega
        generalize cmpN y gk = cv at *
        have hcmp := Lib.hid hcmp
        have he := Lib.hid (hend (by omega))
        clear hyx hend
        go_wp2_with fail
        refine hcmp.out.mono ?_
        rintro e w8 ⟨rfl, hd⟩
        go_wp2
        go_ret
        rw [← he.out]
        exact ⟨_, _, rfl, by obtain ⟨q, rfl⟩ := hd; exact hX7.drewN q, below_drawn hBx hd⟩
end Go.Proofs.Ytkidgeeedigkhaa
