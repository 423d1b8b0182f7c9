/- The walk of the statement NatQuotients. -/
import Derived.Test.YtgjakbhfahehfaaLaw1
namespace Go.Proofs.Ytgjakbhfahehfaa
open Go.RowKit

theorem own_ne {w : World} {b : Nat} {A : Option Addr} {n c : Nat} {l : List Int} (h : Own w b A n c l) {g : Nat} (hg : g < b) : ∀ b' off, A = some ⟨b', off, none⟩ → b' ≠ g := by
  rintro b' off rfl
  have := (h.own.lt b' rfl).1
  omega
theorem own_off {w : World} {b : Nat} {A : Option Addr} {n c : Nat} {l : List Int} (h : Own w b A n c l) : ∀ b' off, A = some ⟨b', off, none⟩ → off = 0 := by
  rintro b' off rfl
  rcases h.own.2 with ⟨h', _⟩ | ⟨g', cap', cur, h', _⟩
  · simp at h'
  · injection h' with h1 _ _
    injection h1 with h1
    injection h1
def RetTrue (w : World) (e : Ending) (w' : World) : Prop := e = .returned (.bool true) ∧ Below w.heap.size w w'

set_option maxHeartbeats 2000000 in
theorem natQuotients_zero (w : World) (A : Option Addr) (n c : Nat) (la : List Int) (A' : Option Addr) (n' c' : Nat) (lb : List Int) (ha : Sl w A n c la) (hb : Sl w A' n' c' lb) (hs : n ≤ 35184372087808) (hs' : n' ≤ 35184372087808) (h0 : val lb = 0) :
    Calls Try.prog 3 #[.slice A n c, .slice A' n' c'] w (RetTrue w) := by
  go_enter Try.func3, Try.ntmps3
  go_wp2_with fail
  refine (copied_calls _ _ _ _ _ ha (by omega)).mono ?_
  rintro e w1 ⟨g1, c1, rfl, hx, hB1⟩
  go_wp2_with fail
  refine (copied_calls _ _ _ _ _ (hb.below hB1) (by omega)).mono ?_
  rintro e w2 ⟨g2, c2, rfl, hy, hB2⟩
  have hx2 := hx.below hB2
  have hB := below_step hB1 hB2
  go_wp2_with fail
  refine (div_zero _ _ _ _ _ _ _ _ _ (Row.prefix_ (r := [77, 78, 79]) hx2).sl (Row.prefix_ (r := [77, 78, 79]) hy).sl h0).mono ?_
  rintro e w3 ⟨rfl, rfl⟩
  go_wp2_with fail
  refine (rdiv_zero w2 A n c _ _ _ _ (hb.below hB) h0 (by omega)).mono ?_
  rintro e w3 ⟨rfl, hB3⟩
  have hBa := below_step hB hB3
  go_wp2_with fail
  refine (same_calls w3 none 0 0 none 0 [] (Sl.nil _ _ _) (Sl.nil _ _ _)).mono ?_
  rintro e w4 ⟨rfl, hd4⟩
  go_wp2_with fail
  refine (same_calls w4 none 0 0 none 0 [] (Sl.nil _ _ _) (Sl.nil _ _ _)).mono ?_
  rintro e w5 ⟨rfl, hd5⟩
  go_wp2_with fail
  refine (awake_calls _).mono ?_
  rintro e w6 ⟨rfl, hB6⟩
  have hBb := below_step (below_drawn (below_drawn hBa hd4) hd5) hB6
  have hx6 := (((hx2.below hB3).drawn hd4).drawn hd5).below hB6
  have hy6 := (((hy.below hB3).drawn hd4).drawn hd5).below hB6
  go_wp2
  refine wp_loop_rounds 1 ?_
  rw [rounds_succ]
  go_wp2_with fail
  refine (same_calls _ none 0 0 none 0 [] (Sl.nil _ _ _) (Sl.nil _ _ _)).mono ?_
  rintro e w7 ⟨rfl, hd7⟩
  go_wp2_with fail
  have hBc := below_drawn hBb hd7
  refine (kept_calls _ _ g1 c1 n A c la (hx6.drawn hd7) (ha.below hBc) (by omega)).mono ?_
  rintro e w8 ⟨rfl, hd8⟩
  go_wp2_with fail
  have hBd := below_drawn hBc hd8
  refine (kept_calls _ _ g2 c2 n' A' c' lb ((hy6.drawn hd7).drawn hd8) (hb.below hBd) (by omega)).mono ?_
  rintro e w9 ⟨rfl, hd9⟩
  go_wp2
  go_ret
  exact ⟨rfl, below_drawn hBd hd9⟩

set_option maxHeartbeats 4000000 in
theorem natQuotients_pos (w : World) (A : Option Addr) (n c : Nat) (la : List Int) (A' : Option Addr) (n' c' : Nat) (lb : List Int) (ha : Sl w A n c la) (hb : Sl w A' n' c' lb) (hs : n ≤ 35184372087808) (hs' : n' ≤ 35184372087808) (h0 : 0 < val lb) :
    Calls Try.prog 3 #[.slice A n c, .slice A' n' c'] w (RetTrue w) := by
  have hql : (digs (val la / val lb)).length ≤ 35184372088829 := Nat.le_trans (digs_len_lt_mono (Nat.div_le_self _ _) (digs_val_len ha.lim)) (by have := ha.len; omega)
  have hrl : (digs (val la % val lb)).length ≤ 35184372088829 := Nat.le_trans (digs_len_lt_mono (Nat.mod_le _ _) (digs_val_len ha.lim)) (by have := ha.len; omega)
  go_enter Try.func3, Try.ntmps3
  go_wp2_with fail
  refine (copied_calls _ _ _ _ _ ha (by omega)).mono ?_
  rintro e w1 ⟨g1, c1, rfl, hx, hB1⟩
  go_wp2_with fail
  refine (copied_calls _ _ _ _ _ (hb.below hB1) (by omega)).mono ?_
  rintro e w2 ⟨g2, c2, rfl, hy, hB2⟩
  have hx2 := hx.below hB2
  have hB := below_step hB1 hB2
  have hg1 := hx2.lt.2
  have hg2 := hy.lt.2
  go_wp2_with fail
  refine (div_calls _ _ _ _ _ _ _ _ _ (Row.prefix_ (r := [77, 78, 79]) hx2).sl (Row.prefix_ (r := [77, 78, 79]) hy).sl h0 (by omega)).mono ?_
  rintro e w3 ⟨Aq, cq, Ar, cr, rfl, hq, hr, hne, hB3⟩
  have hBa := below_step hB hB3
  have hqlt := hq.own.lt
  go_wp2_with fail
  refine (rdiv_calls w3 A n c la _ _ _ _ (ha.below hBa) (hb.below hBa) h0 (by omega) (by omega)).mono ?_
  rintro e w4 ⟨Au, cu, Av, cv, rfl, hu, hv, hB4⟩
  have hBb := below_step hBa hB4
  have hq4 := hq.below hB4
  have hr4 := hr.below hB4
  have hx4 := (hx2.below hB3).below hB4
  have hy4 := (hy.below hB3).below hB4
  go_wp2_with fail
  refine (same_calls _ _ _ _ _ _ _ hq4.sl hu.sl).mono ?_
  rintro e w5 ⟨rfl, hd5⟩
  go_wp2_with fail
  refine (same_calls _ _ _ _ _ _ _ (hr4.drawn hd5).sl (hv.drawn hd5).sl).mono ?_
  rintro e w6 ⟨rfl, hd6⟩
  go_wp2_with fail
  refine (awake_calls _).mono ?_
  rintro e w7 ⟨rfl, hB7⟩
  have hBc := below_step (below_drawn (below_drawn hBb hd5) hd6) hB7
  have hq7 := ((hq4.drawn hd5).drawn hd6).below hB7
  have hr7 := ((hr4.drawn hd5).drawn hd6).below hB7
  have hv7 := ((hv.drawn hd5).drawn hd6).below hB7
  have hx7 := ((hx4.drawn hd5).drawn hd6).below hB7
  have hy7 := ((hy4.drawn hd5).drawn hd6).below hB7
  clear hq hr hu hv hq4 hr4 hx4 hy4 hB1 hB2 hB3 hB4 hB7 hx hx2 hy hBa hBb
  go_wp2
  rcases Nat.eq_zero_or_pos (digs (val la / val lb)).length with hz | hz
  · rw [hz]
    refine wp_loop_rounds 1 ?_
    rw [rounds_succ]
    go_wp2_with fail
    refine (same_calls _ _ _ _ _ _ _ hr7.sl hv7.sl).mono ?_
    rintro e w8 ⟨rfl, hd7⟩
    go_wp2_with fail
    have hBd := below_drawn hBc hd7
    refine (kept_calls _ _ g1 c1 n A c la (hx7.drawn hd7) (ha.below hBd) (by omega)).mono ?_
    rintro e w8 ⟨rfl, hd8⟩
    go_wp2_with fail
    have hBe := below_drawn hBd hd8
    refine (kept_calls _ _ g2 c2 n' A' c' lb ((hy7.drawn hd7).drawn hd8) (hb.below hBe) (by omega)).mono ?_
    rintro e w9 ⟨rfl, hd9⟩
    go_wp2
    go_ret
    exact ⟨rfl, below_drawn hBe hd9⟩
  · obtain ⟨gq, rfl, hRq⟩ := hq7.row hz
    have hgq := hRq.lt
    have hq3 := (hqlt gq rfl).2
    have hrne : ∀ b' off, Ar = some ⟨b', off, none⟩ → b' ≠ gq := by
      rintro b' off rfl rfl
      have := own_off hr7 b' off rfl
      subst this
      exact hne b' rfl rfl
    generalize (digs (val la / val lb)).length = nq at *
    generalize digs (val la / val lb) = Q0 at *
    have hvne := own_ne hv7 (g := gq) hq3
    go_loopw [51] (fun iv wr => ∃ (k : Nat) (o : List Int), k ≤ nq ∧ iv = .int .i64 k ∧ Row wr w2.heap.size gq cq nq o ∧ w7.grownBy wr (some gq)) (fun iv _ => nq - (intOf iv).toNat)
    case atStart => exact ⟨0, _, Nat.zero_le _, rfl, hRq, World.grownBy.refl _ _⟩
    case round =>
      clear hRq
      obtain ⟨k, o, hk, rfl, hRq, hG⟩ := hrel
      by_cases hlt : k < nq
      · have hcQ := hRq.cell k hlt
        have hfQ := hRq.frozen k
        have hsz := hRq.lt
        have hZ := Row.stored hRq k (x := 5) (by omega) (by omega)
        have hG2 := fun u => grown_setCell hG k u
        go_wp2
        go_roundw
        case rel => exact ⟨k + 1, _, by omega, by go_num, hZ, hG2 _⟩
        case measure => simp [intOf] <;> omega
      · have hr8 := hr7.sl.grown hG hrne
        have hv8 := hv7.sl.grown hG hvne
        have hx8 := hx7.grown hG (by omega)
        have hy8 := hy7.grown hG (by omega)
        have hBd := hBc.grown hG hBc.size (fun x hx => by injection hx with hx; have := hB.size; omega)
        go_wp2_with fail
        refine (same_calls _ _ _ _ _ _ _ hr8 hv8).mono ?_
        rintro e w8 ⟨rfl, hd7⟩
        go_wp2_with fail
        have hBe := below_drawn hBd hd7
        refine (kept_calls _ _ g1 c1 n A c la (hx8.drawn hd7) (ha.below hBe) (by omega)).mono ?_
        rintro e w8 ⟨rfl, hd8⟩
        go_wp2_with fail
        have hBf := below_drawn hBe hd8
        refine (kept_calls _ _ g2 c2 n' A' c' lb ((hy8.drawn hd7).drawn hd8) (hb.below hBf) (by omega)).mono ?_
        rintro e w9 ⟨rfl, hd9⟩
        go_wp2
        go_ret
        exact ⟨rfl, below_drawn hBf hd9⟩

theorem natQuotients_law (w : World) (A : Option Addr) (n c : Nat) (la : List Int) (A' : Option Addr) (n' c' : Nat) (lb : List Int) (ha : Sl w A n c la) (hb : Sl w A' n' c' lb) (hs : n ≤ 35184372087808) (hs' : n' ≤ 35184372087808) :
    Calls Try.prog 3 #[.slice A n c, .slice A' n' c'] w (RetTrue w) := by
  rcases Nat.eq_zero_or_pos (val lb) with h | h
  · exact natQuotients_zero w A n c la A' n' c' lb ha hb hs hs' h
  · exact natQuotients_pos w A n c la A' n' c' lb ha hb hs hs' h
end Go.Proofs.Ytgjakbhfahehfaa
