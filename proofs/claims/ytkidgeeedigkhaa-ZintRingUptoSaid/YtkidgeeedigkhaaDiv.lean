/- nat.Div -/
import Derived.Test.YtkidgeeedigkhaaDigit
import Derived.Test.YtkidgeeedigkhaaNum5
namespace Go.Proofs.Ytkidgeeedigkhaa
open Go.RowKit

/-- A quotient and a rest, each in memory of its own. -/
def RetDiv (q r : Nat) (w : World) (e : Ending) (w' : World) : Prop := ∃ A c A' c', e = .returned (.tuple #[.slice A (digs q).length c, .slice A' (digs r).length c', .int .i64 0]) ∧
  Own w' w.heap.size A (digs q).length c (digs q) ∧ Own w' w.heap.size A' (digs r).length c' (digs r) ∧ (∀ g, A = some ⟨g, 0, none⟩ → A' ≠ some ⟨g, 0, none⟩) ∧ Below w.heap.size w w'

theorem lz32_calls (x : Int) (w : World) (h0 : 0 ≤ x) (h1 : x < 4294967296) :
    Calls Try.prog 91 #[.int .u32 x] w fun e w' => e = .returned (.int .i64 (32 - (blen x.toNat : Int))) ∧ w = w' :=
  (Try.bits_LeadingZeros32 x w h0 (by omega)).mono fun _ _ ⟨h, h'⟩ => ⟨by rw [h, bitLen_blen _ (by omega)], h'.symm⟩

set_option maxHeartbeats 1000000 in
theorem div_zero (w : World) (A : Option Addr) (n c : Nat) (la : List Int) (A' : Option Addr) (n' c' : Nat) (lb : List Int) (ha : Sl w A n c la) (hb : Sl w A' n' c' lb) (h0 : val lb = 0) :
    Calls Try.prog 63 #[.slice A n c, .slice A' n' c'] w fun e w' => e = .returned (.tuple #[.slice none 0 0, .slice none 0 0, .int .i64 11]) ∧ w = w' := by
  have e0 := Lib.hid (show (digs (val lb)).length = 0 by rw [h0, digs_zero]; rfl)
  go_enter Try.func63, Try.ntmps63
  go_wp2_with fail
  refine (trim_calls _ _ _ _ _ ha).mono ?_
  rintro e w' ⟨rfl, rfl⟩
  go_wp2_with fail
  refine (trim_calls _ _ _ _ _ hb).mono ?_
  rintro e w' ⟨rfl, rfl⟩
  rw [e0.out]
  go_wp2
  go_ret3
  exact ⟨rfl, rfl⟩

set_option maxHeartbeats 1000000 in
theorem div_small (w : World) (A : Option Addr) (n c : Nat) (la : List Int) (A' : Option Addr) (n' c' : Nat) (lb : List Int) (ha : Sl w A n c la) (hb : Sl w A' n' c' lb) (h0 : val la < val lb) (hs : n ≤ 35184372088832) :
    Calls Try.prog 63 #[.slice A n c, .slice A' n' c'] w (RetDiv (val la / val lb) (val la % val lb) w) := by
  have hg := cmpN_lt h0
  have Hg := Lib.hid hg
  have hbp : 0 < (digs (val lb)).length := by
    rcases Nat.eq_zero_or_pos (digs (val lb)).length with h | h
    · have := (digs_nil_iff (val lb)).1 (List.eq_nil_of_length_eq_zero h); omega
    · exact h
  have hne : (((digs (val lb)).length : Int) == 0) = false := beq_eq_false_iff_ne.2 (by omega)
  clear hg
  go_enter Try.func63, Try.ntmps63
  go_wp2_with fail
  refine (trim_calls _ _ _ _ _ ha).mono ?_
  rintro e w' ⟨rfl, rfl⟩
  go_wp2_with fail
  refine (trim_calls _ _ _ _ _ hb).mono ?_
  rintro e w' ⟨rfl, rfl⟩
  go_wp2_with fail
  refine (cmp_calls _ _ _ _ _ _ _ _ _ ha.strip hb.strip).mono ?_
  rintro e w1 ⟨rfl, hd⟩
  rw [val_digs, val_digs, Hg.out]
  have hB := below_drawn (Below.refl w.heap.size w) hd
  go_wp2_with fail
  refine (norm_calls _ _ _ _ _ (ha.strip.drawn hd) (by have := digs_val_len ha.lim; have := ha.len; omega)).mono ?_
  rintro e w2 ⟨A1, c1, rfl, hO, hB2⟩
  go_wp2
  go_ret3
  rw [val_digs] at hO ⊢
  rw [Nat.mod_eq_of_lt h0, Nat.div_eq_of_lt h0]
  refine ⟨none, 0, A1, c1, by rw [digs_zero]; rfl, by rw [digs_zero]; exact Own.nil _ _, hO.base hB.size, by simp, below_step hB hB2⟩

theorem len_one {N : Nat} (h : (digs N).length = 1) : 0 < N ∧ N < 4294967296 ∧ (digs N).getD 0 0 = (N : Int) := by
  have h1 := digs_lt_pow N
  rw [h, Nat.pow_one] at h1
  have h0 : 0 < N := by
    rcases Nat.eq_zero_or_pos N with h0 | h0
    · subst h0; rw [digs_zero] at h; simp at h
    · exact h0
  refine ⟨h0, h1, ?_⟩
  rw [digs_pos h0, Nat.mod_eq_of_lt h1]
  rfl

set_option maxHeartbeats 1000000 in
theorem div_one (w : World) (A : Option Addr) (n c : Nat) (la : List Int) (A' : Option Addr) (n' c' : Nat) (lb : List Int) (ha : Sl w A n c la) (hb : Sl w A' n' c' lb) (h0 : val lb ≤ val la) (h1 : (digs (val lb)).length = 1) :
    Calls Try.prog 63 #[.slice A n c, .slice A' n' c'] w (RetDiv (val la / val lb) (val la % val lb) w) := by
  have hg : 0 ≤ cmpN (val la) (val lb) := by unfold cmpN; split <;> (try split) <;> omega
  generalize hge : cmpN (val la) (val lb) = r at hg
  have Hg := Lib.hid hge
  clear hge
  obtain ⟨hp, hlt, htop⟩ := len_one h1
  have H1 := Lib.hid h1
  clear h1
  go_enter Try.func63, Try.ntmps63
  go_wp2_with fail
  refine (trim_calls _ _ _ _ _ ha).mono ?_
  rintro e w' ⟨rfl, rfl⟩
  go_wp2_with fail
  refine (trim_calls _ _ _ _ _ hb).mono ?_
  rintro e w' ⟨rfl, rfl⟩
  rw [H1.out]
  have hbs := hb.strip
  rw [H1.out] at hbs
  go_wp2_with fail
  refine (cmp_calls _ _ _ _ _ _ _ _ _ ha.strip hbs).mono ?_
  rintro e w1 ⟨rfl, hd⟩
  rw [val_digs, val_digs, Hg.out]
  have hB := below_drawn (Below.refl w.heap.size w) hd
  have ha1 := ha.strip.drawn hd
  obtain ⟨b, off, rfl, hcb⟩ := (hbs.drawn hd).at_ (i := 0) (by omega)
  rw [htop, Nat.add_zero] at hcb
  clear htop
  go_wp2_with fail
  refine (short_calls _ _ _ _ _ (val lb : Int) ha1 (by omega) (by omega)).mono ?_
  rintro e w2 ⟨A1, c1, rfl, hO, hB2⟩
  rw [val_digs, Int.toNat_natCast] at hO ⊢
  go_wp2_with fail
  have hR := Row.lit1 w2 (x := (val la : Int) % (val lb : Int)) (Int.emod_nonneg _ (by omega)) (by have := Int.emod_lt_of_pos (val la : Int) (show 0 < (val lb : Int) by omega); omega)
  refine (trim_calls _ _ _ _ _ hR.toOwn.sl).mono ?_
  rintro e w' ⟨rfl, rfl⟩
  go_wp2
  go_ret3
  have hv : val [(val la : Int) % (val lb : Int)] = val la % val lb := by rw [val_one, ← Int.natCast_emod, Int.toNat_natCast]
  have hO2 := hR.toOwn.strip
  rw [hv] at hO2 ⊢
  have hS := below_step hB hB2
  refine ⟨A1, c1, _, _, rfl, (hO.base hB.size).alloc _, hO2.base hS.size, ?_, hS.alloc hS.size _⟩
  rintro g rfl h
  have := (hO.own.lt g rfl).2
  injection h with h
  injection h with h
  omega

set_option maxHeartbeats 4000000 in
set_option maxRecDepth 100000 in
theorem div_long (w : World) (A : Option Addr) (n0 c : Nat) (la : List Int) (A' : Option Addr) (n' c' : Nat) (lb : List Int) (ha : Sl w A n0 c la) (hb : Sl w A' n' c' lb) (h0 : val lb ≤ val la) (n : Nat) (h1 : (digs (val lb)).length = n + 1) (hn : 0 < n) (hs : n0 ≤ 35184372088829) :
    Calls Try.prog 63 #[.slice A n0 c, .slice A' n' c'] w (RetDiv (val la / val lb) (val la % val lb) w) := by
  have hg : 0 ≤ cmpN (val la) (val lb) := by unfold cmpN; split <;> (try split) <;> omega
  generalize hge : cmpN (val la) (val lb) = r at hg
  have Hg := Lib.hid hge
  clear hge
  have hlx : (digs (val la)).length ≤ 35184372088829 := by have := digs_val_len ha.lim; have := ha.len; omega
  have hyx : n + 1 ≤ (digs (val la)).length := by have := digs_len_mono h0; omega
  have hX := ha.strip
  have hY := hb.strip
  rw [h1] at hY
  have htop := top_ne_zero h1
  have hty := (digs_lim (val lb)).getD n
  have H1 := Lib.hid h1
  clear h1
  go_enter Try.func63, Try.ntmps63
  go_wp2_with fail
  refine (trim_calls _ _ _ _ _ ha).mono ?_
  rintro e w' ⟨rfl, rfl⟩
  go_wp2_with fail
  refine (trim_calls _ _ _ _ _ hb).mono ?_
  rintro e w' ⟨rfl, rfl⟩
  rw [H1.out]
  have hne : (((n + 1 : Nat) : Int) == 0) = false := beq_eq_false_iff_ne.2 (by omega)
  have hne1 : (((n + 1 : Nat) : Int) == 1) = false := beq_eq_false_iff_ne.2 (by omega)
  have hn0 : ((n : Int) == 0) = false := beq_eq_false_iff_ne.2 (by omega)
  clear ha hb
  go_wp2_with fail
  refine (cmp_calls _ _ _ _ _ _ _ _ _ hX hY).mono ?_
  rintro e w1 ⟨rfl, hd⟩
  rw [val_digs, val_digs, Hg.out]
  have hB := below_drawn (Below.refl w.heap.size w) hd
  replace hX := hX.drawn hd
  replace hY := hY.drawn hd
  obtain ⟨b, off, rfl, hcb⟩ := hY.at_ (i := n) (by omega)
  obtain ⟨s, hs1⟩ : ∃ s, s + blen ((digs (val lb)).getD n 0).toNat = 32 := ⟨32 - blen ((digs (val lb)).getD n 0).toNat, by have := blen_le_iff.2 (show ((digs (val lb)).getD n 0).toNat < 2 ^ 32 by omega); omega⟩
  have hs31 : s ≤ 31 := by have := blen_pos (show 0 < ((digs (val lb)).getD n 0).toNat by omega); omega
  obtain ⟨hvl, hvg⟩ := norm_len H1.out hs1
  generalize hte : (digs (val lb)).getD n 0 = t at *
  have hse : (32 : Int) - (blen t.toNat : Int) = (s : Int) := by omega
  have Hse := Lib.hid hse
  have Hvl := Lib.hid hvl
  have hst := div_start (la := (digs (val la)).length) rfl hyx hs31 hvg
  have Hst := Lib.hid hst
  clear hse hvl hst hte hs1 hn0
  go_wp2_with fail
  refine (lz32_calls t _ hty.1 hty.2).mono ?_
  rintro e w' ⟨rfl, rfl⟩
  rw [Hse.out]
  go_wp2_with fail
  refine (shl_calls _ _ _ _ _ s hY (by omega)).mono ?_
  rintro e w2 ⟨Av, cv, rfl, hV, hBv⟩
  rw [val_digs, Hvl.out] at hV ⊢
  have hB2 := below_step hB hBv
  go_wp2_with fail
  refine (shl_calls _ _ _ _ _ s (hX.below hBv) (by omega)).mono ?_
  rintro e w3 ⟨Au, cu, rfl, hU, hBu⟩
  rw [val_digs] at hU ⊢
  have hVu := hV.below hBu
  have hB3 := below_step hB2 hBu
  have hL := Row.lit w3 [0, 0] (Lim.cons (by omega) (by omega) (Lim.one (by omega) (by omega))) (by simp) #[.int .u32 0, .int .u32 0] rfl
  have hcl := Hst.out.2.2.1
  rw [List.length_take, List.length_append] at hcl
  have hcl2 : (digs (val la)).length + 1 ≤ (digs (val la * 2 ^ s)).length + 2 := by
    have : ([0, 0] : List Int).length = 2 := rfl
    omega
  have h4 := Hst.out.1
  clear hcl
  obtain ⟨gv, rfl, hRv⟩ := hV.row (by omega)
  have hgv := hRv.lt.2
  have hRv3 := (hRv.below hBu).alloc (.cells #[.int .u32 0, .int .u32 0] 62)
  go_wp2_with (first
    | (at_builtin; refine append_u32 _ rfl _ _ rfl w2.heap.size Au (digs (val la * 2 ^ s)).length cu (digs (val la * 2 ^ s)) (some ⟨w3.heap.size, 0, none⟩) 2 2 [0, 0] rfl rfl (hU.alloc _) hL.toOwn.sl ?_ ?_ ?_; omega; (have := hBu.size; simp; omega); intro A1 c1 w4 hU4 hg4 hat4; have hB4 := below_append (hB3.alloc hB3.size _) (hU.alloc _) hB2.size hg4; have hRv4 := hRv3.keptAppend hgv (hU.alloc _) hg4; obtain ⟨gu, rfl, hRu⟩ := hU4.row (by omega); have hcap := ownsRow_cap hRu.own)
    | (at_make; refine make_u32 _ rfl _ _ rfl ((digs (val la)).length - n) _ _ _ _ rfl rfl ?_ ?_ ?_ ?_; (iterate 3 omega); intro w5 hRq hBq))
  have hRu5 := (hRu.take ((digs (val la)).length + 1) hcl2).below hBq
  have hRv5 := hRv4.below hBq
  have hB5 := below_step hB4 hBq
  have hgu := hRu.lt
  have hUV := Hst.out.2
  have hVv := val_digs (val lb * 2 ^ s)
  have hVl := Hvl.out
  have hinv0 : DivInv ((digs (val la * 2 ^ s) ++ [0, 0]).take ((digs (val la)).length + 1)) (digs (val lb * 2 ^ s)) ((digs (val la * 2 ^ s) ++ [0, 0]).take ((digs (val la)).length + 1)) (List.replicate ((digs (val la)).length - n) 0) ((digs (val la)).length - n) :=
    ⟨hRu5.lim, Lim.replicate _, rfl, rfl, by rw [hVv]; exact hUV.2.2, by rw [val_drop_ge (List.replicate _ _) _ (by simp)]; simp⟩
  have hvtop : 0 < (digs (val lb * 2 ^ s)).getD n 0 := by have := top_ne_zero hVl; have := (digs_lim (val lb * 2 ^ s)).getD n; omega
  have Hdiv := Lib.hid (div_shift (val la) (val lb) s)
  have HU0 := Lib.hid hUV.1
  have HUl := Lib.hid hUV.2.1
  have HVv := Lib.hid hVv
  have HVl := Lib.hid hVl
  have Hinv0 := Lib.hid hinv0
  clear hinv0 hVv hVl hUV hRu hRv hRv3 hRv4 hL hU hU4 hcl2 h4 hcap
  clear Hst Hvl
  obtain ⟨M, hM⟩ : ∃ M, M = (digs (val la)).length - n := ⟨_, rfl⟩
  rw [← hM] at hRq Hinv0 ⊢
  have hLM : (digs (val la)).length = n + M := by omega
  generalize (digs (val la * 2 ^ s) ++ [0, 0]).take ((digs (val la)).length + 1) = U0 at *
  generalize digs (val lb * 2 ^ s) = V at *
  have hc1 : n + M + 1 ≤ c1 := by have := ownsRow_cap hRu5.own; omega
  have hM0 : 0 < M := by omega
  have hnM : n + M ≤ 35184372088829 := by omega
  generalize digs (val la) = X at *
  generalize X.length = L at *
  have hLM1 : L ≤ n + M := by omega
  have hLM2 : n + M ≤ L := by omega
  clear hM hLM hlx hyx hg hX
  go_loopw [13] (fun jv wr => ∃ (k : Nat) (U Q : List Int), k ≤ M ∧ jv = .int .i64 (k - 1) ∧ Hid (DivInv U0 V U Q k) ∧ Row wr w2.heap.size gu c1 (L + 1) U ∧ Row wr w4.heap.size w4.heap.size M M Q ∧ Row wr w1.heap.size gv cv (n + 1) V ∧ Below w.heap.size w wr) (fun jv _ => (intOf jv + 1).toNat)
  case atStart => exact ⟨M, _, _, Nat.le_refl _, by go_num, Hinv0, hRu5, hRq, hRv5, hB5⟩
  case round =>
    clear hRu5 hRq hRv5 hB5 Hinv0
    obtain ⟨k, U, Q, hk, rfl, hinv, hRu, hRq, hRv, hBr⟩ := hrel
    by_cases hk0 : k = 0
    · subst hk0
      obtain ⟨hq, hr⟩ := hinv.out.last
      rw [HU0.out, HVv.out, Hdiv.out.1] at hq
      rw [HU0.out, HVv.out] at hr
      have hr2 := Hdiv.out.2
      rw [← hr] at hr2
      have Hq := Lib.hid hq
      have Hr2 := Lib.hid hr2
      clear hq hr hr2
      go_wp2_with fail
      refine (trim_calls _ _ _ _ _ hRq.toOwn.sl).mono ?_
      rintro e w' ⟨rfl, rfl⟩
      rw [Hq.out]
      go_wp2_with fail
      refine (trim_calls _ _ _ _ _ hRu.toOwn.sl).mono ?_
      rintro e w' ⟨rfl, rfl⟩
      go_wp2_with fail
      refine (shr_calls _ _ _ _ _ s hRu.toOwn.sl.strip (by omega)).mono ?_
      rintro e w7 ⟨Ar, cr, rfl, hO, hB7⟩
      rw [val_digs, Hr2.out] at hO ⊢
      go_wp2
      go_ret3
      have hOq := hRq.toOwn.strip
      rw [Hq.out] at hOq
      refine ⟨_, _, _, _, rfl, (hOq.base (by have := hB4.size; omega)).below hB7, hO.base hBr.size, ?_, below_step hBr hB7⟩
      rintro g hg h
      injection hg with hg
      injection hg with hg
      subst h
      have := (hO.own.lt g rfl).1
      have := hRq.lt
      omega
    · obtain ⟨j, rfl⟩ : ∃ j, k = j + 1 := ⟨k - 1, by omega⟩
      clear hk0
      have e0 : ((j + 1 : Nat) : Int) - 1 = j := by omega
      rw [e0]
      clear e0
      have hVlen := HVl.out
      have hjl : j + V.length < U.length := by rw [hRu.len, hVlen]; omega
      obtain ⟨hw1, hw2, hw3⟩ := hinv.out.win hRv.lim hjl
      have hpl : (U.take j).length = j := by rw [List.length_take, hRu.len]; omega
      have hsplit : U = U.take j ++ (U.drop j).take (n + 2) ++ U.drop (j + V.length + 1) := by
        rw [hVlen, List.append_assoc, show j + (n + 1) + 1 = j + (n + 2) by omega, ← List.drop_drop, List.take_append_drop, List.take_append_drop]
      have hwl : ((U.drop j).take (n + 2)).length = n + 2 := by rw [List.length_take, List.length_drop, hRu.len]; omega
      rw [hVlen, show n + 1 + 1 = n + 2 by omega] at hw1
      have hRu' := hRu
      rw [hsplit] at hRu'
      have hdig := digit_at wr w2.heap.size gu c1 (L + 1) (U.take j) ((U.drop j).take (n + 2)) (U.drop (j + V.length + 1)) V n j hpl (some ⟨gv, 0, none⟩) cv (c1 - j) hRu' hwl hRv.toOwn.sl (by intro b' off' e; injection e with e; injection e with e; omega) hvtop (by rw [hw1]; exact hw2)
      rw [hw1] at hdig
      have Hdig := Lib.hid hdig
      clear hdig hRu' hsplit hVlen hjl hw1 hw2 hw3
      go_wp2_with fail
      rw [show j + (n + 1) + 1 - j = n + 2 by omega]
      refine Hdig.out.mono ?_
      rintro e wd ⟨win', rfl, hRu2, hwl2, hwv2, hgd⟩
      have hRq2 := hRq.grown hgd (by omega)
      have hRv2 := hRv.grown hgd (by omega)
      have hBd := hBr.grown hgd hBr.size (fun x hx => by injection hx with hx; subst hx; have := hRu.lt.1; have := hB2.size; omega)
      have hcQ := hRq2.cell j (by omega)
      have hfQ := hRq2.frozen j
      have hsz := hRq2.lt
      have hVlen := HVl.out
      have hstep := Lib.hid (hinv.out.step hRv.lim (by rw [hRu.len, hVlen]; omega) (by rw [hRq.len]; omega) hRu2.lim.left.right (by rw [hwl2, hVlen]) hwv2)
      have hq32 : val (U.drop j) / val V < 4294967296 := by
        have := (hinv.out.win hRv.lim (by rw [hRu.len, hVlen]; omega)).2.1
        exact Nat.div_lt_of_lt_mul (by rw [Nat.mul_comm]; exact this)
      clear hVlen hwl2 hwv2
      generalize val (U.drop j) / val V = qj at *
      have hqj : 0 ≤ (qj : Int) ∧ (qj : Int) < 4294967296 := by omega
      go_wp2
      go_roundw
      case rel => exact ⟨j, _, _, by omega, by go_num, hstep, hRu2.setOther (by omega) _ _, Row.stored hRq2 j hqj.1 hqj.2, hRv2.setOther (by omega) _ _, hBd.setCell (by have := hB4.size; omega) _⟩
      case measure => simp [intOf] <;> omega
end Go.Proofs.Ytkidgeeedigkhaa
