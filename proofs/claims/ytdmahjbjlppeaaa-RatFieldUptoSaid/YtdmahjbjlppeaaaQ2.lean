
/- The reference of rationals. -/
import Derived.Test.YtdmahjbjlppeaaaQ1
namespace Go.Proofs.Ytdmahjbjlppeaaa
open Go.RowKit

set_option maxHeartbeats 4000000 in
set_option maxRecDepth 8000 in
theorem r3make_p {w : World} {x : Value} {p : Int} {N0 : Nat} (h0 : Az N0 w x p) {y : Value} {q : Int} {N1 : Nat} (h1 : Az N1 w y q) (hN0 : N0 ≤ 1000000000) (hN1 : N1 ≤ 1000000000) (hq : q ≠ 0) (d : decide (q.sign < 0) = false)  : Calls Try.prog 17 #[x, y] w (Ret (.pair (.cz (rn p q)) (.cz (rd p q))) w) := by
  have _u := hq
  have la0 := h0.len
  obtain ⟨na0, A0, n0, c0, M0, rfl, hm0, hz0⟩ := h0.parts
  have la1 := h1.len
  obtain ⟨na1, A1, n1, c1, M1, rfl, hm1, hz1⟩ := h1.parts
  obtain ⟨Ex1, Ex2, hgp⟩ := ref_pos (p := p) hq d
  have T0 : Below w.heap.size w w := Below.refl _ _
  go_enter Try.func17, Try.ntmps17
  refine wp_seq ?_
  have HB : w.heap.size ≤ w.heap.size := T0.size
  refine wp_plan_seq [.new 2 (some (24, #[.bool na0, .slice A0 n0 c0])), .new 2 (some (24, #[.bool na1, .slice A1 n1 c1])), .new 4 (some (29, #[.bool false, .slice none 0 0, .bool false, .slice none 0 0]))] [] [] w.heap.size (by kernel_rfl) (by kernel_rfl) trivial HB ?_ ?_
  · exact ⟨fun s v h => does_new rfl rfl (x_box_z (h.same 0 rfl)) (okz _ _ _ _) rfl (.inr rfl),
      fun s v h => does_new rfl rfl (x_box_z (h.same 1 rfl)) (okz _ _ _ _) rfl (.inr rfl),
      fun s v h => does_new rfl rfl x_alloc_r (okr _ _ _ _ _ _ _ _) rfl (.inr rfl), trivial⟩
  intro g1 ts v1 hts E1
  simp only [fillL, Nat.reduceAdd, List.setIfInBounds_toArray, List.set_cons_zero, List.set_cons_succ] at hts
  subst hts
  have T2 : Below w.heap.size w v1 := T0.trans E1.below
  have f3 := (h0.mono E1.mono)
  have f5 := (h1.mono E1.mono)
  obtain ⟨q7, p8, l9, o10, b11⟩ : ∃ q, g1 0 = .pointer (some ⟨q, 0, none⟩) ∧ w.heap.size ≤ q ∧ OkB v1 q 2 ∧ Bx v1 q 24 #[.bool na0, .slice A0 n0 c0] := E1.facts 0 (by decide)
  have h12 : w.heap.size ≤ q7 := Nat.le_trans HB l9
  obtain ⟨q13, p14, l15, o16, b17⟩ : ∃ q, g1 1 = .pointer (some ⟨q, 0, none⟩) ∧ w.heap.size ≤ q ∧ OkB v1 q 2 ∧ Bx v1 q 24 #[.bool na1, .slice A1 n1 c1] := E1.facts 1 (by decide)
  have h18 : w.heap.size ≤ q13 := Nat.le_trans HB l15
  obtain ⟨q20, p21, l22, o23, b24⟩ : ∃ q, g1 2 = .pointer (some ⟨q, 0, none⟩) ∧ w.heap.size ≤ q ∧ OkB v1 q 4 ∧ Bx v1 q 29 #[.bool false, .slice none 0 0, .bool false, .slice none 0 0] := E1.facts 2 (by decide)
  have h26 : w.heap.size ≤ q20 := Nat.le_trans HB l22
  refine then_normal ?_
  refine wp_seq ?_
  have HB : w.heap.size ≤ v1.heap.size := T2.size
  refine wp_plan_seq [.val (.az N0 p), .val (.cz p), .new 2 none, .put 5 15] [] [] w.heap.size (by kernel_rfl) (by kernel_rfl) trivial HB ?_ ?_
  · exact ⟨fun s v h => does_val rfl rfl (x_load_z ((h.same 2 rfl).trans p8) ((h.far q7 b11.lt (by simp)).trans b11)) (f3.mono h.mono),
      fun s v h => does_call rfl rfl (x_call1 Try.call47) (r2norm_k (h.dep 0 rfl) (by omega)),
      fun s v h => does_new rfl rfl x_alloc_z (okz _ _ _ _) rfl (.inl rfl),
      fun s v h => by obtain ⟨q, e1, e2, e3⟩ := new_at (h.dep 2 rfl); exact does_put_z rfl rfl e1 (h.dep 1 rfl).shape e3 (Nat.le_trans HB e2), trivial⟩
  intro g29 ts v29 hts E29
  simp only [fillL, Nat.reduceAdd, List.setIfInBounds_toArray, List.set_cons_zero, List.set_cons_succ] at hts
  subst hts
  have T30 : Below w.heap.size w v29 := T2.trans E29.below
  have l31 : q7 < v1.heap.size := b11.lt
  have l32 : q13 < v1.heap.size := b17.lt
  have l33 : q20 < v1.heap.size := b24.lt
  have b34 : Bx v29 q7 24 #[.bool na0, .slice A0 n0 c0] := (E29.far q7 b11.lt (by simp)).trans b11
  have b35 : Bx v29 q13 24 #[.bool na1, .slice A1 n1 c1] := (E29.far q13 b17.lt (by simp)).trans b17
  have b36 : Bx v29 q20 29 #[.bool false, .slice none 0 0, .bool false, .slice none 0 0] := (E29.far q20 b24.lt (by simp)).trans b24
  have f39 := (f5.mono E29.mono)
  have f43 : Cz v29 (g29 1) p := E29.facts 1 (by decide)
  obtain ⟨q44, p45, l46, o47⟩ : ∃ q, g29 2 = .pointer (some ⟨q, 0, none⟩) ∧ v1.heap.size ≤ q ∧ OkB v29 q 2 := E29.facts 2 (by decide)
  have h48 : w.heap.size ≤ q44 := Nat.le_trans HB l46
  have n51 : q20 ≠ q44 := by omega
  obtain ⟨t52, x54, A55, m56, c57, e58, b53⟩ := put_info (E29.facts 3 (by decide)) p45 f43.shape
  have f59 : Cz v29 (.agg #[.bool x54, .slice A55 m56 c57]) p := f43.at e58.symm
  refine then_normal ?_
  refine wp_seq ?_
  have HB : w.heap.size ≤ v29.heap.size := T30.size
  refine wp_plan_seq [.val (.az N1 q), .val (.cz q), .new 2 none, .put 6 17] [] [] w.heap.size (by kernel_rfl) (by kernel_rfl) trivial HB ?_ ?_
  · exact ⟨fun s v h => does_val rfl rfl (x_load_z ((h.same 3 rfl).trans p14) ((h.far q13 b35.lt (by simp)).trans b35)) (f39.mono h.mono),
      fun s v h => does_call rfl rfl (x_call1 Try.call47) (r2norm_k (h.dep 0 rfl) (by omega)),
      fun s v h => does_new rfl rfl x_alloc_z (okz _ _ _ _) rfl (.inl rfl),
      fun s v h => by obtain ⟨q, e1, e2, e3⟩ := new_at (h.dep 2 rfl); exact does_put_z rfl rfl e1 (h.dep 1 rfl).shape e3 (Nat.le_trans HB e2), trivial⟩
  intro g60 ts v60 hts E60
  simp only [fillL, Nat.reduceAdd, List.setIfInBounds_toArray, List.set_cons_zero, List.set_cons_succ] at hts
  subst hts
  have T61 : Below w.heap.size w v60 := T30.trans E60.below
  have l62 : q7 < v29.heap.size := b34.lt
  have l63 : q13 < v29.heap.size := b35.lt
  have l64 : q20 < v29.heap.size := b36.lt
  have l65 : q44 < v29.heap.size := b53.lt
  have b66 : Bx v60 q7 24 #[.bool na0, .slice A0 n0 c0] := (E60.far q7 b34.lt (by simp)).trans b34
  have b67 : Bx v60 q13 24 #[.bool na1, .slice A1 n1 c1] := (E60.far q13 b35.lt (by simp)).trans b35
  have b68 : Bx v60 q20 29 #[.bool false, .slice none 0 0, .bool false, .slice none 0 0] := (E60.far q20 b36.lt (by simp)).trans b36
  have b69 : Bx v60 q44 t52 #[.bool x54, .slice A55 m56 c57] := (E60.far q44 b53.lt (by simp)).trans b53
  have f77 := (f59.mono E60.mono)
  have f79 : Cz v60 (g60 1) q := E60.facts 1 (by decide)
  obtain ⟨q80, p81, l82, o83⟩ : ∃ q, g60 2 = .pointer (some ⟨q, 0, none⟩) ∧ v29.heap.size ≤ q ∧ OkB v60 q 2 := E60.facts 2 (by decide)
  have h84 : w.heap.size ≤ q80 := Nat.le_trans HB l82
  obtain ⟨t89, x91, A92, m93, c94, e95, b90⟩ := put_info (E60.facts 3 (by decide)) p81 f79.shape
  have f96 : Cz v60 (.agg #[.bool x91, .slice A92 m93 c94]) q := f79.at e95.symm
  refine then_normal ?_
  refine wp_seq ?_
  refine wp_seq ?_
  have HB : w.heap.size ≤ v60.heap.size := T61.size
  refine wp_plan_seq [.val (.cz q), .val (.is (.int .i64 q.sign)), .val (.is (.bool false))] [] [] w.heap.size (by kernel_rfl) (by kernel_rfl) trivial HB ?_ ?_
  · exact ⟨fun s v h => does_val rfl rfl (x_load_z ((h.same 6 rfl).trans p81) ((h.far q80 b90.lt (by simp)).trans b90)) (f96.mono h.mono),
      fun s v h => does_call rfl rfl (x_call1 Try.call14) (r2sign_k ((h.dep 0 rfl).az (N := N1) la1) (by omega)),
      fun s v h => does_val rfl rfl (x_lss (h.dep 1 rfl) rfl) (congrArg Value.bool d), trivial⟩
  intro g97 ts v97 hts E97
  simp only [fillL, Nat.reduceAdd, List.setIfInBounds_toArray, List.set_cons_zero, List.set_cons_succ] at hts
  subst hts
  have T98 : Below w.heap.size w v97 := T61.trans E97.below
  have l99 : q7 < v60.heap.size := b66.lt
  have l100 : q13 < v60.heap.size := b67.lt
  have l101 : q20 < v60.heap.size := b68.lt
  have l102 : q44 < v60.heap.size := b69.lt
  have l103 : q80 < v60.heap.size := b90.lt
  have b104 : Bx v97 q7 24 #[.bool na0, .slice A0 n0 c0] := (E97.far q7 b66.lt (by simp)).trans b66
  have b105 : Bx v97 q13 24 #[.bool na1, .slice A1 n1 c1] := (E97.far q13 b67.lt (by simp)).trans b67
  have b106 : Bx v97 q20 29 #[.bool false, .slice none 0 0, .bool false, .slice none 0 0] := (E97.far q20 b68.lt (by simp)).trans b68
  have b107 : Bx v97 q44 t52 #[.bool x54, .slice A55 m56 c57] := (E97.far q44 b69.lt (by simp)).trans b69
  have b108 : Bx v97 q80 t89 #[.bool x91, .slice A92 m93 c94] := (E97.far q80 b90.lt (by simp)).trans b90
  have f116 := (f77.mono E97.mono)
  have f119 := (f96.mono E97.mono)
  have e122 : g97 2 = (.bool false) := E97.facts 2 (by decide)
  refine then_normal ?_
  refine wp_cond_false e122 ?_
  refine wp_skip ?_
  refine then_normal ?_
  refine wp_seq ?_
  have HB : w.heap.size ≤ v97.heap.size := T98.size
  refine wp_plan_seq [.val (.is (.pointer (some ⟨q44, 1, none⟩))), .val (.cn p.natAbs), .val (.is (.pointer (some ⟨q80, 1, none⟩))), .val (.cn q.natAbs), .val (.nz (N0 + N1) (Nat.gcd p.natAbs q.natAbs)), .val (.nz (N0 + N1) (Nat.gcd p.natAbs q.natAbs))] [] [] w.heap.size (by kernel_rfl) (by kernel_rfl) trivial HB ?_ ?_
  · exact ⟨fun s v h => does_val rfl rfl (x_fld (by decide) ((h.same 5 rfl).trans p45)) rfl,
      fun s v h => does_val rfl rfl (x_load_s (h.dep 0 rfl) ((h.far q44 b107.lt (by simp)).trans b107)) (Cz.mag (f116.mono h.mono)),
      fun s v h => does_val rfl rfl (x_fld (by decide) ((h.same 6 rfl).trans p81)) rfl,
      fun s v h => does_val rfl rfl (x_load_s (h.dep 2 rfl) ((h.far q80 b108.lt (by simp)).trans b108)) (Cz.mag (f119.mono h.mono)),
      fun s v h => does_call rfl rfl (x_call2 Try.call49) (rgcd_k (Cn.nz (h.dep 1 rfl) la0) (Cn.nz (h.dep 3 rfl) la1) (by omega) (by omega) (by omega) (by omega)),
      fun s v h => does_val rfl rfl (x_assign) (h.dep 4 rfl), trivial⟩
  intro g123 ts v123 hts E123
  simp only [fillL, Nat.reduceAdd, List.setIfInBounds_toArray, List.set_cons_zero, List.set_cons_succ] at hts
  subst hts
  have T124 : Below w.heap.size w v123 := T98.trans E123.below
  have l125 : q7 < v97.heap.size := b104.lt
  have l126 : q13 < v97.heap.size := b105.lt
  have l127 : q20 < v97.heap.size := b106.lt
  have l128 : q44 < v97.heap.size := b107.lt
  have l129 : q80 < v97.heap.size := b108.lt
  have b130 : Bx v123 q7 24 #[.bool na0, .slice A0 n0 c0] := (E123.far q7 b104.lt (by simp)).trans b104
  have b131 : Bx v123 q13 24 #[.bool na1, .slice A1 n1 c1] := (E123.far q13 b105.lt (by simp)).trans b105
  have b132 : Bx v123 q20 29 #[.bool false, .slice none 0 0, .bool false, .slice none 0 0] := (E123.far q20 b106.lt (by simp)).trans b106
  have b133 : Bx v123 q44 t52 #[.bool x54, .slice A55 m56 c57] := (E123.far q44 b107.lt (by simp)).trans b107
  have b134 : Bx v123 q80 t89 #[.bool x91, .slice A92 m93 c94] := (E123.far q80 b108.lt (by simp)).trans b108
  have f142 := (f116.mono E123.mono)
  have f145 := (f119.mono E123.mono)
  have f150 : Nz (N0 + N1) v123 (g123 5) (Nat.gcd p.natAbs q.natAbs) := E123.facts 5 (by decide)
  refine then_normal ?_
  refine wp_seq ?_
  have HB : w.heap.size ≤ v123.heap.size := T124.size
  refine wp_plan_seq [.val (.is (.pointer (some ⟨q44, 1, none⟩))), .val (.cn p.natAbs), .val (.nz (N0 + N1) (Nat.gcd p.natAbs q.natAbs)), .val (.tup3 (.cn (p.natAbs / (Nat.gcd p.natAbs q.natAbs))) (.cn (p.natAbs % (Nat.gcd p.natAbs q.natAbs))) (.is (.int .i64 0))), .val (.tup3 (.cn (p.natAbs / (Nat.gcd p.natAbs q.natAbs))) (.cn (p.natAbs % (Nat.gcd p.natAbs q.natAbs))) (.is (.int .i64 0))), .val (.cn (p.natAbs / (Nat.gcd p.natAbs q.natAbs))), .val (.cn (p.natAbs % (Nat.gcd p.natAbs q.natAbs))), .val (.is (.int .i64 0)), .val (.cn (p.natAbs / (Nat.gcd p.natAbs q.natAbs))), .val (.cn (p.natAbs % (Nat.gcd p.natAbs q.natAbs))), .val (.is (.int .i64 0))] [] [] w.heap.size (by kernel_rfl) (by kernel_rfl) trivial HB ?_ ?_
  · exact ⟨fun s v h => does_val rfl rfl (x_fld (by decide) ((h.same 5 rfl).trans p45)) rfl,
      fun s v h => does_val rfl rfl (x_load_s (h.dep 0 rfl) ((h.far q44 b133.lt (by simp)).trans b133)) (Cz.mag (f142.mono h.mono)),
      fun s v h => does_val rfl rfl (x_move) ((f150.mono h.mono).at (h.same 7 rfl)),
      fun s v h => does_call rfl rfl (x_call2 Try.call50) (rdiv_cn (Cn.nz (h.dep 1 rfl) la0) (h.dep 2 rfl) (by omega) (by omega) hgp),
      fun s v h => does_val rfl rfl (x_move) (h.dep 3 rfl),
      fun s v h => by obtain ⟨r0, r1, r2, e, f0, f1, f2⟩ := tup3_at (h.dep 4 rfl); exact does_val rfl rfl (x_ext e rfl) f0,
      fun s v h => by obtain ⟨r0, r1, r2, e, f0, f1, f2⟩ := tup3_at (h.dep 4 rfl); exact does_val rfl rfl (x_ext e rfl) f1,
      fun s v h => by obtain ⟨r0, r1, r2, e, f0, f1, f2⟩ := tup3_at (h.dep 4 rfl); exact does_val rfl rfl (x_ext e rfl) f2,
      fun s v h => does_val rfl rfl (x_assign) (h.dep 5 rfl),
      fun s v h => does_val rfl rfl (x_assign) (h.dep 6 rfl),
      fun s v h => does_val rfl rfl (x_assign) (h.dep 7 rfl), trivial⟩
  intro g151 ts v151 hts E151
  simp only [fillL, Nat.reduceAdd, List.setIfInBounds_toArray, List.set_cons_zero, List.set_cons_succ] at hts
  subst hts
  have T152 : Below w.heap.size w v151 := T124.trans E151.below
  have l153 : q7 < v123.heap.size := b130.lt
  have l154 : q13 < v123.heap.size := b131.lt
  have l155 : q20 < v123.heap.size := b132.lt
  have l156 : q44 < v123.heap.size := b133.lt
  have l157 : q80 < v123.heap.size := b134.lt
  have b158 : Bx v151 q7 24 #[.bool na0, .slice A0 n0 c0] := (E151.far q7 b130.lt (by simp)).trans b130
  have b159 : Bx v151 q13 24 #[.bool na1, .slice A1 n1 c1] := (E151.far q13 b131.lt (by simp)).trans b131
  have b160 : Bx v151 q20 29 #[.bool false, .slice none 0 0, .bool false, .slice none 0 0] := (E151.far q20 b132.lt (by simp)).trans b132
  have b161 : Bx v151 q44 t52 #[.bool x54, .slice A55 m56 c57] := (E151.far q44 b133.lt (by simp)).trans b133
  have b162 : Bx v151 q80 t89 #[.bool x91, .slice A92 m93 c94] := (E151.far q80 b134.lt (by simp)).trans b134
  have f170 := (f142.mono E151.mono)
  have f173 := (f145.mono E151.mono)
  have f178 := (f150.mono E151.mono)
  have f184 : Cn v151 (g151 8) (p.natAbs / (Nat.gcd p.natAbs q.natAbs)) := E151.facts 8 (by decide)
  refine then_normal ?_
  refine wp_seq ?_
  have HB : w.heap.size ≤ v151.heap.size := T152.size
  refine wp_plan_seq [.val (.is (.pointer (some ⟨q80, 1, none⟩))), .val (.cn q.natAbs), .val (.nz (N0 + N1) (Nat.gcd p.natAbs q.natAbs)), .val (.tup3 (.cn (q.natAbs / (Nat.gcd p.natAbs q.natAbs))) (.cn (q.natAbs % (Nat.gcd p.natAbs q.natAbs))) (.is (.int .i64 0))), .val (.tup3 (.cn (q.natAbs / (Nat.gcd p.natAbs q.natAbs))) (.cn (q.natAbs % (Nat.gcd p.natAbs q.natAbs))) (.is (.int .i64 0))), .val (.cn (q.natAbs / (Nat.gcd p.natAbs q.natAbs))), .val (.cn (q.natAbs % (Nat.gcd p.natAbs q.natAbs))), .val (.is (.int .i64 0)), .val (.cn (q.natAbs / (Nat.gcd p.natAbs q.natAbs))), .val (.cn (q.natAbs % (Nat.gcd p.natAbs q.natAbs))), .val (.is (.int .i64 0))] [] [] w.heap.size (by kernel_rfl) (by kernel_rfl) trivial HB ?_ ?_
  · exact ⟨fun s v h => does_val rfl rfl (x_fld (by decide) ((h.same 6 rfl).trans p81)) rfl,
      fun s v h => does_val rfl rfl (x_load_s (h.dep 0 rfl) ((h.far q80 b162.lt (by simp)).trans b162)) (Cz.mag (f173.mono h.mono)),
      fun s v h => does_val rfl rfl (x_move) ((f178.mono h.mono).at (h.same 7 rfl)),
      fun s v h => does_call rfl rfl (x_call2 Try.call50) (rdiv_cn (Cn.nz (h.dep 1 rfl) la1) (h.dep 2 rfl) (by omega) (by omega) hgp),
      fun s v h => does_val rfl rfl (x_move) (h.dep 3 rfl),
      fun s v h => by obtain ⟨r0, r1, r2, e, f0, f1, f2⟩ := tup3_at (h.dep 4 rfl); exact does_val rfl rfl (x_ext e rfl) f0,
      fun s v h => by obtain ⟨r0, r1, r2, e, f0, f1, f2⟩ := tup3_at (h.dep 4 rfl); exact does_val rfl rfl (x_ext e rfl) f1,
      fun s v h => by obtain ⟨r0, r1, r2, e, f0, f1, f2⟩ := tup3_at (h.dep 4 rfl); exact does_val rfl rfl (x_ext e rfl) f2,
      fun s v h => does_val rfl rfl (x_assign) (h.dep 5 rfl),
      fun s v h => does_val rfl rfl (x_assign) (h.dep 6 rfl),
      fun s v h => does_val rfl rfl (x_assign) (h.dep 7 rfl), trivial⟩
  intro g187 ts v187 hts E187
  simp only [fillL, Nat.reduceAdd, List.setIfInBounds_toArray, List.set_cons_zero, List.set_cons_succ] at hts
  subst hts
  have T188 : Below w.heap.size w v187 := T152.trans E187.below
  have l189 : q7 < v151.heap.size := b158.lt
  have l190 : q13 < v151.heap.size := b159.lt
  have l191 : q20 < v151.heap.size := b160.lt
  have l192 : q44 < v151.heap.size := b161.lt
  have l193 : q80 < v151.heap.size := b162.lt
  have b194 : Bx v187 q7 24 #[.bool na0, .slice A0 n0 c0] := (E187.far q7 b158.lt (by simp)).trans b158
  have b195 : Bx v187 q13 24 #[.bool na1, .slice A1 n1 c1] := (E187.far q13 b159.lt (by simp)).trans b159
  have b196 : Bx v187 q20 29 #[.bool false, .slice none 0 0, .bool false, .slice none 0 0] := (E187.far q20 b160.lt (by simp)).trans b160
  have b197 : Bx v187 q44 t52 #[.bool x54, .slice A55 m56 c57] := (E187.far q44 b161.lt (by simp)).trans b161
  have b198 : Bx v187 q80 t89 #[.bool x91, .slice A92 m93 c94] := (E187.far q80 b162.lt (by simp)).trans b162
  have f206 := (f170.mono E187.mono)
  have f219 := (f184.mono E187.mono)
  have f226 : Cn v187 (g187 8) (q.natAbs / (Nat.gcd p.natAbs q.natAbs)) := E187.facts 8 (by decide)
  refine then_normal ?_
  refine wp_seq ?_
  have HB : w.heap.size ≤ v187.heap.size := T188.size
  refine wp_plan_seq [.val (.is (.pointer (some ⟨q44, 0, none⟩))), .val (.is (.bool (decide (p < 0)))), .val (.cn (p.natAbs / (Nat.gcd p.natAbs q.natAbs))), .val (.az N0 (zof (decide (p < 0)) (p.natAbs / (Nat.gcd p.natAbs q.natAbs)))), .val (.cz (zof (decide (p < 0)) (p.natAbs / (Nat.gcd p.natAbs q.natAbs)))), .val (.cn (q.natAbs / (Nat.gcd p.natAbs q.natAbs))), .val (.cz ((q.natAbs / (Nat.gcd p.natAbs q.natAbs) : Nat) : Int)), .val (.pair (.cz (zof (decide (p < 0)) (p.natAbs / (Nat.gcd p.natAbs q.natAbs)))) (.cz ((q.natAbs / (Nat.gcd p.natAbs q.natAbs) : Nat) : Int))), .put 4 53] [4] [q20] w.heap.size (by kernel_rfl) (by kernel_rfl) ⟨p21, b196.lt, (by simp), trivial⟩ HB ?_ ?_
  · exact ⟨fun s v h => does_val rfl rfl (x_fld (by decide) ((h.same 5 rfl).trans p45)) rfl,
      fun s v h => does_val rfl rfl (x_load_b (h.dep 0 rfl) ((h.far q44 b197.lt (nin1 n51.symm)).trans b197)) (congrArg Value.bool (Cz.sgn (f206.mono h.mono))),
      fun s v h => does_val rfl rfl (x_move) ((f219.mono h.mono).at (h.same 8 rfl)),
      fun s v h => does_build_z2 rfl rfl (h.dep 1 rfl) (h.dep 2 rfl) (div_len la0),
      fun s v h => does_call rfl rfl (x_call1 Try.call47) (r2norm_k (h.dep 3 rfl) (by omega)),
      fun s v h => does_val rfl rfl (x_move) ((f226.mono h.mono).at (h.same 11 rfl)),
      fun s v h => does_build_cn rfl rfl (h.dep 5 rfl),
      fun s v h => does_build_r2 rfl rfl (num_cz _) (num_cz _) (h.dep 4 rfl) (h.dep 6 rfl),
      fun s v h => does_put_r rfl rfl ((h.same 4 rfl).trans p21) (pair_shape (num_cz _) (num_cz _) (h.dep 7 rfl)) (h.mono.ok _ _ b196.ok4) h26, trivial⟩
  intro g229 ts v229 hts E229
  simp only [fillL, Nat.reduceAdd, List.setIfInBounds_toArray, List.set_cons_zero, List.set_cons_succ] at hts
  subst hts
  have T230 : Below w.heap.size w v229 := T188.trans E229.below
  have l231 : q7 < v187.heap.size := b194.lt
  have l232 : q13 < v187.heap.size := b195.lt
  have l233 : q20 < v187.heap.size := b196.lt
  have l234 : q44 < v187.heap.size := b197.lt
  have l235 : q80 < v187.heap.size := b198.lt
  have f274 : ((.pair (.cz (zof (decide (p < 0)) (p.natAbs / (Nat.gcd p.natAbs q.natAbs)))) (.cz ((q.natAbs / (Nat.gcd p.natAbs q.natAbs) : Nat) : Int))) : Known).p v229 (g229 7) := E229.facts 7 (by decide)
  obtain ⟨t275, x277, A278, m279, c280, x281, A282, m283, c284, e285, b276⟩ := put_info4 (E229.facts 8 (by decide)) p21 (pair_shape (num_cz _) (num_cz _) f274)
  have f286 : ((.pair (.cz (zof (decide (p < 0)) (p.natAbs / (Nat.gcd p.natAbs q.natAbs)))) (.cz ((q.natAbs / (Nat.gcd p.natAbs q.natAbs) : Nat) : Int))) : Known).p v229 (.agg #[.bool x277, .slice A278 m279 c280, .bool x281, .slice A282 m283 c284]) := pair_at f274 e285.symm
  refine then_normal ?_
  refine wp_ret ?_
  exact bodyPost_ret (ret_r rfl p21 b276) rfl ⟨_, rfl, (by have := f286; rw [Ex1, Ex2] at this; exact this), T230⟩

set_option maxHeartbeats 4000000 in
set_option maxRecDepth 8000 in
theorem r3make_n {w : World} {x : Value} {p : Int} {N0 : Nat} (h0 : Az N0 w x p) {y : Value} {q : Int} {N1 : Nat} (h1 : Az N1 w y q) (hN0 : N0 ≤ 1000000000) (hN1 : N1 ≤ 1000000000) (hq : q ≠ 0) (d : decide (q.sign < 0) = true)  : Calls Try.prog 17 #[x, y] w (Ret (.pair (.cz (rn p q)) (.cz (rd p q))) w) := by
  have _u := hq
  have la0 := h0.len
  obtain ⟨na0, A0, n0, c0, M0, rfl, hm0, hz0⟩ := h0.parts
  have la1 := h1.len
  obtain ⟨na1, A1, n1, c1, M1, rfl, hm1, hz1⟩ := h1.parts
  obtain ⟨Ex1, Ex2, hgp⟩ := ref_neg (p := p) d
  have T0 : Below w.heap.size w w := Below.refl _ _
  go_enter Try.func17, Try.ntmps17
  refine wp_seq ?_
  have HB : w.heap.size ≤ w.heap.size := T0.size
  refine wp_plan_seq [.new 2 (some (24, #[.bool na0, .slice A0 n0 c0])), .new 2 (some (24, #[.bool na1, .slice A1 n1 c1])), .new 4 (some (29, #[.bool false, .slice none 0 0, .bool false, .slice none 0 0]))] [] [] w.heap.size (by kernel_rfl) (by kernel_rfl) trivial HB ?_ ?_
  · exact ⟨fun s v h => does_new rfl rfl (x_box_z (h.same 0 rfl)) (okz _ _ _ _) rfl (.inr rfl),
      fun s v h => does_new rfl rfl (x_box_z (h.same 1 rfl)) (okz _ _ _ _) rfl (.inr rfl),
      fun s v h => does_new rfl rfl x_alloc_r (okr _ _ _ _ _ _ _ _) rfl (.inr rfl), trivial⟩
  intro g287 ts v287 hts E287
  simp only [fillL, Nat.reduceAdd, List.setIfInBounds_toArray, List.set_cons_zero, List.set_cons_succ] at hts
  subst hts
  have T288 : Below w.heap.size w v287 := T0.trans E287.below
  have f289 := (h0.mono E287.mono)
  have f291 := (h1.mono E287.mono)
  obtain ⟨q293, p294, l295, o296, b297⟩ : ∃ q, g287 0 = .pointer (some ⟨q, 0, none⟩) ∧ w.heap.size ≤ q ∧ OkB v287 q 2 ∧ Bx v287 q 24 #[.bool na0, .slice A0 n0 c0] := E287.facts 0 (by decide)
  have h298 : w.heap.size ≤ q293 := Nat.le_trans HB l295
  obtain ⟨q299, p300, l301, o302, b303⟩ : ∃ q, g287 1 = .pointer (some ⟨q, 0, none⟩) ∧ w.heap.size ≤ q ∧ OkB v287 q 2 ∧ Bx v287 q 24 #[.bool na1, .slice A1 n1 c1] := E287.facts 1 (by decide)
  have h304 : w.heap.size ≤ q299 := Nat.le_trans HB l301
  obtain ⟨q306, p307, l308, o309, b310⟩ : ∃ q, g287 2 = .pointer (some ⟨q, 0, none⟩) ∧ w.heap.size ≤ q ∧ OkB v287 q 4 ∧ Bx v287 q 29 #[.bool false, .slice none 0 0, .bool false, .slice none 0 0] := E287.facts 2 (by decide)
  have h312 : w.heap.size ≤ q306 := Nat.le_trans HB l308
  refine then_normal ?_
  refine wp_seq ?_
  have HB : w.heap.size ≤ v287.heap.size := T288.size
  refine wp_plan_seq [.val (.az N0 p), .val (.cz p), .new 2 none, .put 5 15] [] [] w.heap.size (by kernel_rfl) (by kernel_rfl) trivial HB ?_ ?_
  · exact ⟨fun s v h => does_val rfl rfl (x_load_z ((h.same 2 rfl).trans p294) ((h.far q293 b297.lt (by simp)).trans b297)) (f289.mono h.mono),
      fun s v h => does_call rfl rfl (x_call1 Try.call47) (r2norm_k (h.dep 0 rfl) (by omega)),
      fun s v h => does_new rfl rfl x_alloc_z (okz _ _ _ _) rfl (.inl rfl),
      fun s v h => by obtain ⟨q, e1, e2, e3⟩ := new_at (h.dep 2 rfl); exact does_put_z rfl rfl e1 (h.dep 1 rfl).shape e3 (Nat.le_trans HB e2), trivial⟩
  intro g315 ts v315 hts E315
  simp only [fillL, Nat.reduceAdd, List.setIfInBounds_toArray, List.set_cons_zero, List.set_cons_succ] at hts
  subst hts
  have T316 : Below w.heap.size w v315 := T288.trans E315.below
  have l317 : q293 < v287.heap.size := b297.lt
  have l318 : q299 < v287.heap.size := b303.lt
  have l319 : q306 < v287.heap.size := b310.lt
  have b320 : Bx v315 q293 24 #[.bool na0, .slice A0 n0 c0] := (E315.far q293 b297.lt (by simp)).trans b297
  have b321 : Bx v315 q299 24 #[.bool na1, .slice A1 n1 c1] := (E315.far q299 b303.lt (by simp)).trans b303
  have b322 : Bx v315 q306 29 #[.bool false, .slice none 0 0, .bool false, .slice none 0 0] := (E315.far q306 b310.lt (by simp)).trans b310
  have f325 := (f291.mono E315.mono)
  have f329 : Cz v315 (g315 1) p := E315.facts 1 (by decide)
  obtain ⟨q330, p331, l332, o333⟩ : ∃ q, g315 2 = .pointer (some ⟨q, 0, none⟩) ∧ v287.heap.size ≤ q ∧ OkB v315 q 2 := E315.facts 2 (by decide)
  have h334 : w.heap.size ≤ q330 := Nat.le_trans HB l332
  have n335 : q293 ≠ q330 := by omega
  have n336 : q299 ≠ q330 := by omega
  have n337 : q306 ≠ q330 := by omega
  obtain ⟨t338, x340, A341, m342, c343, e344, b339⟩ := put_info (E315.facts 3 (by decide)) p331 f329.shape
  have f345 : Cz v315 (.agg #[.bool x340, .slice A341 m342 c343]) p := f329.at e344.symm
  refine then_normal ?_
  refine wp_seq ?_
  have HB : w.heap.size ≤ v315.heap.size := T316.size
  refine wp_plan_seq [.val (.az N1 q), .val (.cz q), .new 2 none, .put 6 17] [] [] w.heap.size (by kernel_rfl) (by kernel_rfl) trivial HB ?_ ?_
  · exact ⟨fun s v h => does_val rfl rfl (x_load_z ((h.same 3 rfl).trans p300) ((h.far q299 b321.lt (by simp)).trans b321)) (f325.mono h.mono),
      fun s v h => does_call rfl rfl (x_call1 Try.call47) (r2norm_k (h.dep 0 rfl) (by omega)),
      fun s v h => does_new rfl rfl x_alloc_z (okz _ _ _ _) rfl (.inl rfl),
      fun s v h => by obtain ⟨q, e1, e2, e3⟩ := new_at (h.dep 2 rfl); exact does_put_z rfl rfl e1 (h.dep 1 rfl).shape e3 (Nat.le_trans HB e2), trivial⟩
  intro g346 ts v346 hts E346
  simp only [fillL, Nat.reduceAdd, List.setIfInBounds_toArray, List.set_cons_zero, List.set_cons_succ] at hts
  subst hts
  have T347 : Below w.heap.size w v346 := T316.trans E346.below
  have l348 : q293 < v315.heap.size := b320.lt
  have l349 : q299 < v315.heap.size := b321.lt
  have l350 : q306 < v315.heap.size := b322.lt
  have l351 : q330 < v315.heap.size := b339.lt
  have b352 : Bx v346 q293 24 #[.bool na0, .slice A0 n0 c0] := (E346.far q293 b320.lt (by simp)).trans b320
  have b353 : Bx v346 q299 24 #[.bool na1, .slice A1 n1 c1] := (E346.far q299 b321.lt (by simp)).trans b321
  have b354 : Bx v346 q306 29 #[.bool false, .slice none 0 0, .bool false, .slice none 0 0] := (E346.far q306 b322.lt (by simp)).trans b322
  have b355 : Bx v346 q330 t338 #[.bool x340, .slice A341 m342 c343] := (E346.far q330 b339.lt (by simp)).trans b339
  have f363 := (f345.mono E346.mono)
  have f365 : Cz v346 (g346 1) q := E346.facts 1 (by decide)
  obtain ⟨q366, p367, l368, o369⟩ : ∃ q, g346 2 = .pointer (some ⟨q, 0, none⟩) ∧ v315.heap.size ≤ q ∧ OkB v346 q 2 := E346.facts 2 (by decide)
  have h370 : w.heap.size ≤ q366 := Nat.le_trans HB l368
  have n371 : q293 ≠ q366 := by omega
  have n372 : q299 ≠ q366 := by omega
  have n373 : q306 ≠ q366 := by omega
  have n374 : q330 ≠ q366 := by omega
  obtain ⟨t375, x377, A378, m379, c380, e381, b376⟩ := put_info (E346.facts 3 (by decide)) p367 f365.shape
  have f382 : Cz v346 (.agg #[.bool x377, .slice A378 m379 c380]) q := f365.at e381.symm
  refine then_normal ?_
  refine wp_seq ?_
  refine wp_seq ?_
  have HB : w.heap.size ≤ v346.heap.size := T347.size
  refine wp_plan_seq [.val (.cz q), .val (.is (.int .i64 q.sign)), .val (.is (.bool true))] [] [] w.heap.size (by kernel_rfl) (by kernel_rfl) trivial HB ?_ ?_
  · exact ⟨fun s v h => does_val rfl rfl (x_load_z ((h.same 6 rfl).trans p367) ((h.far q366 b376.lt (by simp)).trans b376)) (f382.mono h.mono),
      fun s v h => does_call rfl rfl (x_call1 Try.call14) (r2sign_k ((h.dep 0 rfl).az (N := N1) la1) (by omega)),
      fun s v h => does_val rfl rfl (x_lss (h.dep 1 rfl) rfl) (congrArg Value.bool d), trivial⟩
  intro g383 ts v383 hts E383
  simp only [fillL, Nat.reduceAdd, List.setIfInBounds_toArray, List.set_cons_zero, List.set_cons_succ] at hts
  subst hts
  have T384 : Below w.heap.size w v383 := T347.trans E383.below
  have l385 : q293 < v346.heap.size := b352.lt
  have l386 : q299 < v346.heap.size := b353.lt
  have l387 : q306 < v346.heap.size := b354.lt
  have l388 : q330 < v346.heap.size := b355.lt
  have l389 : q366 < v346.heap.size := b376.lt
  have b390 : Bx v383 q293 24 #[.bool na0, .slice A0 n0 c0] := (E383.far q293 b352.lt (by simp)).trans b352
  have b391 : Bx v383 q299 24 #[.bool na1, .slice A1 n1 c1] := (E383.far q299 b353.lt (by simp)).trans b353
  have b392 : Bx v383 q306 29 #[.bool false, .slice none 0 0, .bool false, .slice none 0 0] := (E383.far q306 b354.lt (by simp)).trans b354
  have b393 : Bx v383 q330 t338 #[.bool x340, .slice A341 m342 c343] := (E383.far q330 b355.lt (by simp)).trans b355
  have b394 : Bx v383 q366 t375 #[.bool x377, .slice A378 m379 c380] := (E383.far q366 b376.lt (by simp)).trans b376
  have f402 := (f363.mono E383.mono)
  have f405 := (f382.mono E383.mono)
  have e408 : g383 2 = (.bool true) := E383.facts 2 (by decide)
  refine then_normal ?_
  refine wp_cond_true e408 ?_
  refine wp_seq ?_
  have HB : w.heap.size ≤ v383.heap.size := T384.size
  refine wp_plan_seq [.val (.cz p), .val (.cz (-p)), .put 5 22] [5] [q330] w.heap.size (by kernel_rfl) (by kernel_rfl) ⟨p331, b393.lt, (by simp), trivial⟩ HB ?_ ?_
  · exact ⟨fun s v h => does_val rfl rfl (x_load_z ((h.same 5 rfl).trans p331) ((h.held 2 5 22 _ rfl rfl rfl p331).trans b393)) (f402.mono h.mono),
      fun s v h => does_call rfl rfl (x_call1 Try.call48) (r2neg_k ((h.dep 0 rfl).az (N := N0) la0) (by omega)),
      fun s v h => does_put_z rfl rfl ((h.same 5 rfl).trans p331) (h.dep 1 rfl).shape (h.mono.ok _ _ b393.ok2) h334, trivial⟩
  intro g409 ts v409 hts E409
  simp only [fillL, Nat.reduceAdd, List.setIfInBounds_toArray, List.set_cons_zero, List.set_cons_succ] at hts
  subst hts
  have T410 : Below w.heap.size w v409 := T384.trans E409.below
  have l411 : q293 < v383.heap.size := b390.lt
  have l412 : q299 < v383.heap.size := b391.lt
  have l413 : q306 < v383.heap.size := b392.lt
  have l414 : q330 < v383.heap.size := b393.lt
  have l415 : q366 < v383.heap.size := b394.lt
  have b416 : Bx v409 q293 24 #[.bool na0, .slice A0 n0 c0] := (E409.far q293 b390.lt (nin1 n335)).trans b390
  have b417 : Bx v409 q299 24 #[.bool na1, .slice A1 n1 c1] := (E409.far q299 b391.lt (nin1 n336)).trans b391
  have b418 : Bx v409 q306 29 #[.bool false, .slice none 0 0, .bool false, .slice none 0 0] := (E409.far q306 b392.lt (nin1 n337)).trans b392
  have b419 : Bx v409 q366 t375 #[.bool x377, .slice A378 m379 c380] := (E409.far q366 b394.lt (nin1 n374.symm)).trans b394
  have f430 := (f405.mono E409.mono)
  have f433 : Cz v409 (g409 1) (-p) := E409.facts 1 (by decide)
  obtain ⟨t434, x436, A437, m438, c439, e440, b435⟩ := put_info (E409.facts 2 (by decide)) p331 f433.shape
  have f441 : Cz v409 (.agg #[.bool x436, .slice A437 m438 c439]) (-p) := f433.at e440.symm
  refine then_normal ?_
  have HB : w.heap.size ≤ v409.heap.size := T410.size
  refine wp_plan_seq [.val (.cz q), .val (.cz (-q)), .put 6 24] [6] [q366] w.heap.size (by kernel_rfl) (by kernel_rfl) ⟨p367, b419.lt, (by simp), trivial⟩ HB ?_ ?_
  · exact ⟨fun s v h => does_val rfl rfl (x_load_z ((h.same 6 rfl).trans p367) ((h.held 2 6 24 _ rfl rfl rfl p367).trans b419)) (f430.mono h.mono),
      fun s v h => does_call rfl rfl (x_call1 Try.call48) (r2neg_k ((h.dep 0 rfl).az (N := N1) la1) (by omega)),
      fun s v h => does_put_z rfl rfl ((h.same 6 rfl).trans p367) (h.dep 1 rfl).shape (h.mono.ok _ _ b419.ok2) h370, trivial⟩
  intro g442 ts v442 hts E442
  simp only [fillL, Nat.reduceAdd, List.setIfInBounds_toArray, List.set_cons_zero, List.set_cons_succ] at hts
  subst hts
  have T443 : Below w.heap.size w v442 := T410.trans E442.below
  have l444 : q293 < v409.heap.size := b416.lt
  have l445 : q299 < v409.heap.size := b417.lt
  have l446 : q306 < v409.heap.size := b418.lt
  have l447 : q330 < v409.heap.size := b435.lt
  have l448 : q366 < v409.heap.size := b419.lt
  have b449 : Bx v442 q293 24 #[.bool na0, .slice A0 n0 c0] := (E442.far q293 b416.lt (nin1 n371)).trans b416
  have b450 : Bx v442 q299 24 #[.bool na1, .slice A1 n1 c1] := (E442.far q299 b417.lt (nin1 n372)).trans b417
  have b451 : Bx v442 q306 29 #[.bool false, .slice none 0 0, .bool false, .slice none 0 0] := (E442.far q306 b418.lt (nin1 n373)).trans b418
  have b452 : Bx v442 q330 t434 #[.bool x436, .slice A437 m438 c439] := (E442.far q330 b435.lt (nin1 n374)).trans b435
  have f467 := (f441.mono E442.mono)
  have f469 : Cz v442 (g442 1) (-q) := E442.facts 1 (by decide)
  obtain ⟨t470, x472, A473, m474, c475, e476, b471⟩ := put_info (E442.facts 2 (by decide)) p367 f469.shape
  have f477 : Cz v442 (.agg #[.bool x472, .slice A473 m474 c475]) (-q) := f469.at e476.symm
  refine then_normal ?_
  refine wp_seq ?_
  have HB : w.heap.size ≤ v442.heap.size := T443.size
  refine wp_plan_seq [.val (.is (.pointer (some ⟨q330, 1, none⟩))), .val (.cn (-p).natAbs), .val (.is (.pointer (some ⟨q366, 1, none⟩))), .val (.cn (-q).natAbs), .val (.nz (N0 + N1) (Nat.gcd ((-p).natAbs) ((-q).natAbs))), .val (.nz (N0 + N1) (Nat.gcd ((-p).natAbs) ((-q).natAbs)))] [] [] w.heap.size (by kernel_rfl) (by kernel_rfl) trivial HB ?_ ?_
  · exact ⟨fun s v h => does_val rfl rfl (x_fld (by decide) ((h.same 5 rfl).trans p331)) rfl,
      fun s v h => does_val rfl rfl (x_load_s (h.dep 0 rfl) ((h.far q330 b452.lt (by simp)).trans b452)) (Cz.mag (f467.mono h.mono)),
      fun s v h => does_val rfl rfl (x_fld (by decide) ((h.same 6 rfl).trans p367)) rfl,
      fun s v h => does_val rfl rfl (x_load_s (h.dep 2 rfl) ((h.far q366 b471.lt (by simp)).trans b471)) (Cz.mag (f477.mono h.mono)),
      fun s v h => does_call rfl rfl (x_call2 Try.call49) (rgcd_k (Cn.nz (h.dep 1 rfl) (len_neg la0)) (Cn.nz (h.dep 3 rfl) (len_neg la1)) (by omega) (by omega) (by omega) (by omega)),
      fun s v h => does_val rfl rfl (x_assign) (h.dep 4 rfl), trivial⟩
  intro g478 ts v478 hts E478
  simp only [fillL, Nat.reduceAdd, List.setIfInBounds_toArray, List.set_cons_zero, List.set_cons_succ] at hts
  subst hts
  have T479 : Below w.heap.size w v478 := T443.trans E478.below
  have l480 : q293 < v442.heap.size := b449.lt
  have l481 : q299 < v442.heap.size := b450.lt
  have l482 : q306 < v442.heap.size := b451.lt
  have l483 : q330 < v442.heap.size := b452.lt
  have l484 : q366 < v442.heap.size := b471.lt
  have b485 : Bx v478 q293 24 #[.bool na0, .slice A0 n0 c0] := (E478.far q293 b449.lt (by simp)).trans b449
  have b486 : Bx v478 q299 24 #[.bool na1, .slice A1 n1 c1] := (E478.far q299 b450.lt (by simp)).trans b450
  have b487 : Bx v478 q306 29 #[.bool false, .slice none 0 0, .bool false, .slice none 0 0] := (E478.far q306 b451.lt (by simp)).trans b451
  have b488 : Bx v478 q330 t434 #[.bool x436, .slice A437 m438 c439] := (E478.far q330 b452.lt (by simp)).trans b452
  have b489 : Bx v478 q366 t470 #[.bool x472, .slice A473 m474 c475] := (E478.far q366 b471.lt (by simp)).trans b471
  have f504 := (f467.mono E478.mono)
  have f507 := (f477.mono E478.mono)
  have f511 : Nz (N0 + N1) v478 (g478 5) (Nat.gcd ((-p).natAbs) ((-q).natAbs)) := E478.facts 5 (by decide)
  refine then_normal ?_
  refine wp_seq ?_
  have HB : w.heap.size ≤ v478.heap.size := T479.size
  refine wp_plan_seq [.val (.is (.pointer (some ⟨q330, 1, none⟩))), .val (.cn (-p).natAbs), .val (.nz (N0 + N1) (Nat.gcd ((-p).natAbs) ((-q).natAbs))), .val (.tup3 (.cn (((-p).natAbs) / (Nat.gcd ((-p).natAbs) ((-q).natAbs)))) (.cn (((-p).natAbs) % (Nat.gcd ((-p).natAbs) ((-q).natAbs)))) (.is (.int .i64 0))), .val (.tup3 (.cn (((-p).natAbs) / (Nat.gcd ((-p).natAbs) ((-q).natAbs)))) (.cn (((-p).natAbs) % (Nat.gcd ((-p).natAbs) ((-q).natAbs)))) (.is (.int .i64 0))), .val (.cn (((-p).natAbs) / (Nat.gcd ((-p).natAbs) ((-q).natAbs)))), .val (.cn (((-p).natAbs) % (Nat.gcd ((-p).natAbs) ((-q).natAbs)))), .val (.is (.int .i64 0)), .val (.cn (((-p).natAbs) / (Nat.gcd ((-p).natAbs) ((-q).natAbs)))), .val (.cn (((-p).natAbs) % (Nat.gcd ((-p).natAbs) ((-q).natAbs)))), .val (.is (.int .i64 0))] [] [] w.heap.size (by kernel_rfl) (by kernel_rfl) trivial HB ?_ ?_
  · exact ⟨fun s v h => does_val rfl rfl (x_fld (by decide) ((h.same 5 rfl).trans p331)) rfl,
      fun s v h => does_val rfl rfl (x_load_s (h.dep 0 rfl) ((h.far q330 b488.lt (by simp)).trans b488)) (Cz.mag (f504.mono h.mono)),
      fun s v h => does_val rfl rfl (x_move) ((f511.mono h.mono).at (h.same 7 rfl)),
      fun s v h => does_call rfl rfl (x_call2 Try.call50) (rdiv_cn (Cn.nz (h.dep 1 rfl) (len_neg la0)) (h.dep 2 rfl) (by omega) (by omega) hgp),
      fun s v h => does_val rfl rfl (x_move) (h.dep 3 rfl),
      fun s v h => by obtain ⟨r0, r1, r2, e, f0, f1, f2⟩ := tup3_at (h.dep 4 rfl); exact does_val rfl rfl (x_ext e rfl) f0,
      fun s v h => by obtain ⟨r0, r1, r2, e, f0, f1, f2⟩ := tup3_at (h.dep 4 rfl); exact does_val rfl rfl (x_ext e rfl) f1,
      fun s v h => by obtain ⟨r0, r1, r2, e, f0, f1, f2⟩ := tup3_at (h.dep 4 rfl); exact does_val rfl rfl (x_ext e rfl) f2,
      fun s v h => does_val rfl rfl (x_assign) (h.dep 5 rfl),
      fun s v h => does_val rfl rfl (x_assign) (h.dep 6 rfl),
      fun s v h => does_val rfl rfl (x_assign) (h.dep 7 rfl), trivial⟩
  intro g512 ts v512 hts E512
  simp only [fillL, Nat.reduceAdd, List.setIfInBounds_toArray, List.set_cons_zero, List.set_cons_succ] at hts
  subst hts
  have T513 : Below w.heap.size w v512 := T479.trans E512.below
  have l514 : q293 < v478.heap.size := b485.lt
  have l515 : q299 < v478.heap.size := b486.lt
  have l516 : q306 < v478.heap.size := b487.lt
  have l517 : q330 < v478.heap.size := b488.lt
  have l518 : q366 < v478.heap.size := b489.lt
  have b519 : Bx v512 q293 24 #[.bool na0, .slice A0 n0 c0] := (E512.far q293 b485.lt (by simp)).trans b485
  have b520 : Bx v512 q299 24 #[.bool na1, .slice A1 n1 c1] := (E512.far q299 b486.lt (by simp)).trans b486
  have b521 : Bx v512 q306 29 #[.bool false, .slice none 0 0, .bool false, .slice none 0 0] := (E512.far q306 b487.lt (by simp)).trans b487
  have b522 : Bx v512 q330 t434 #[.bool x436, .slice A437 m438 c439] := (E512.far q330 b488.lt (by simp)).trans b488
  have b523 : Bx v512 q366 t470 #[.bool x472, .slice A473 m474 c475] := (E512.far q366 b489.lt (by simp)).trans b489
  have f538 := (f504.mono E512.mono)
  have f541 := (f507.mono E512.mono)
  have f545 := (f511.mono E512.mono)
  have f551 : Cn v512 (g512 8) (((-p).natAbs) / (Nat.gcd ((-p).natAbs) ((-q).natAbs))) := E512.facts 8 (by decide)
  refine then_normal ?_
  refine wp_seq ?_
  have HB : w.heap.size ≤ v512.heap.size := T513.size
  refine wp_plan_seq [.val (.is (.pointer (some ⟨q366, 1, none⟩))), .val (.cn (-q).natAbs), .val (.nz (N0 + N1) (Nat.gcd ((-p).natAbs) ((-q).natAbs))), .val (.tup3 (.cn (((-q).natAbs) / (Nat.gcd ((-p).natAbs) ((-q).natAbs)))) (.cn (((-q).natAbs) % (Nat.gcd ((-p).natAbs) ((-q).natAbs)))) (.is (.int .i64 0))), .val (.tup3 (.cn (((-q).natAbs) / (Nat.gcd ((-p).natAbs) ((-q).natAbs)))) (.cn (((-q).natAbs) % (Nat.gcd ((-p).natAbs) ((-q).natAbs)))) (.is (.int .i64 0))), .val (.cn (((-q).natAbs) / (Nat.gcd ((-p).natAbs) ((-q).natAbs)))), .val (.cn (((-q).natAbs) % (Nat.gcd ((-p).natAbs) ((-q).natAbs)))), .val (.is (.int .i64 0)), .val (.cn (((-q).natAbs) / (Nat.gcd ((-p).natAbs) ((-q).natAbs)))), .val (.cn (((-q).natAbs) % (Nat.gcd ((-p).natAbs) ((-q).natAbs)))), .val (.is (.int .i64 0))] [] [] w.heap.size (by kernel_rfl) (by kernel_rfl) trivial HB ?_ ?_
  · exact ⟨fun s v h => does_val rfl rfl (x_fld (by decide) ((h.same 6 rfl).trans p367)) rfl,
      fun s v h => does_val rfl rfl (x_load_s (h.dep 0 rfl) ((h.far q366 b523.lt (by simp)).trans b523)) (Cz.mag (f541.mono h.mono)),
      fun s v h => does_val rfl rfl (x_move) ((f545.mono h.mono).at (h.same 7 rfl)),
      fun s v h => does_call rfl rfl (x_call2 Try.call50) (rdiv_cn (Cn.nz (h.dep 1 rfl) (len_neg la1)) (h.dep 2 rfl) (by omega) (by omega) hgp),
      fun s v h => does_val rfl rfl (x_move) (h.dep 3 rfl),
      fun s v h => by obtain ⟨r0, r1, r2, e, f0, f1, f2⟩ := tup3_at (h.dep 4 rfl); exact does_val rfl rfl (x_ext e rfl) f0,
      fun s v h => by obtain ⟨r0, r1, r2, e, f0, f1, f2⟩ := tup3_at (h.dep 4 rfl); exact does_val rfl rfl (x_ext e rfl) f1,
      fun s v h => by obtain ⟨r0, r1, r2, e, f0, f1, f2⟩ := tup3_at (h.dep 4 rfl); exact does_val rfl rfl (x_ext e rfl) f2,
      fun s v h => does_val rfl rfl (x_assign) (h.dep 5 rfl),
      fun s v h => does_val rfl rfl (x_assign) (h.dep 6 rfl),
      fun s v h => does_val rfl rfl (x_assign) (h.dep 7 rfl), trivial⟩
  intro g554 ts v554 hts E554
  simp only [fillL, Nat.reduceAdd, List.setIfInBounds_toArray, List.set_cons_zero, List.set_cons_succ] at hts
  subst hts
  have T555 : Below w.heap.size w v554 := T513.trans E554.below
  have l556 : q293 < v512.heap.size := b519.lt
  have l557 : q299 < v512.heap.size := b520.lt
  have l558 : q306 < v512.heap.size := b521.lt
  have l559 : q330 < v512.heap.size := b522.lt
  have l560 : q366 < v512.heap.size := b523.lt
  have b561 : Bx v554 q293 24 #[.bool na0, .slice A0 n0 c0] := (E554.far q293 b519.lt (by simp)).trans b519
  have b562 : Bx v554 q299 24 #[.bool na1, .slice A1 n1 c1] := (E554.far q299 b520.lt (by simp)).trans b520
  have b563 : Bx v554 q306 29 #[.bool false, .slice none 0 0, .bool false, .slice none 0 0] := (E554.far q306 b521.lt (by simp)).trans b521
  have b564 : Bx v554 q330 t434 #[.bool x436, .slice A437 m438 c439] := (E554.far q330 b522.lt (by simp)).trans b522
  have b565 : Bx v554 q366 t470 #[.bool x472, .slice A473 m474 c475] := (E554.far q366 b523.lt (by simp)).trans b523
  have f580 := (f538.mono E554.mono)
  have f592 := (f551.mono E554.mono)
  have f599 : Cn v554 (g554 8) (((-q).natAbs) / (Nat.gcd ((-p).natAbs) ((-q).natAbs))) := E554.facts 8 (by decide)
  refine then_normal ?_
  refine wp_seq ?_
  have HB : w.heap.size ≤ v554.heap.size := T555.size
  refine wp_plan_seq [.val (.is (.pointer (some ⟨q330, 0, none⟩))), .val (.is (.bool (decide ((-p) < 0)))), .val (.cn (((-p).natAbs) / (Nat.gcd ((-p).natAbs) ((-q).natAbs)))), .val (.az N0 (zof (decide ((-p) < 0)) (((-p).natAbs) / (Nat.gcd ((-p).natAbs) ((-q).natAbs))))), .val (.cz (zof (decide ((-p) < 0)) (((-p).natAbs) / (Nat.gcd ((-p).natAbs) ((-q).natAbs))))), .val (.cn (((-q).natAbs) / (Nat.gcd ((-p).natAbs) ((-q).natAbs)))), .val (.cz ((((-q).natAbs) / (Nat.gcd ((-p).natAbs) ((-q).natAbs)) : Nat) : Int)), .val (.pair (.cz (zof (decide ((-p) < 0)) (((-p).natAbs) / (Nat.gcd ((-p).natAbs) ((-q).natAbs))))) (.cz ((((-q).natAbs) / (Nat.gcd ((-p).natAbs) ((-q).natAbs)) : Nat) : Int))), .put 4 53] [4] [q306] w.heap.size (by kernel_rfl) (by kernel_rfl) ⟨p307, b563.lt, (by simp), trivial⟩ HB ?_ ?_
  · exact ⟨fun s v h => does_val rfl rfl (x_fld (by decide) ((h.same 5 rfl).trans p331)) rfl,
      fun s v h => does_val rfl rfl (x_load_b (h.dep 0 rfl) ((h.far q330 b564.lt (nin1 n337.symm)).trans b564)) (congrArg Value.bool (Cz.sgn (f580.mono h.mono))),
      fun s v h => does_val rfl rfl (x_move) ((f592.mono h.mono).at (h.same 8 rfl)),
      fun s v h => does_build_z2 rfl rfl (h.dep 1 rfl) (h.dep 2 rfl) (div_len (len_neg la0)),
      fun s v h => does_call rfl rfl (x_call1 Try.call47) (r2norm_k (h.dep 3 rfl) (by omega)),
      fun s v h => does_val rfl rfl (x_move) ((f599.mono h.mono).at (h.same 11 rfl)),
      fun s v h => does_build_cn rfl rfl (h.dep 5 rfl),
      fun s v h => does_build_r2 rfl rfl (num_cz _) (num_cz _) (h.dep 4 rfl) (h.dep 6 rfl),
      fun s v h => does_put_r rfl rfl ((h.same 4 rfl).trans p307) (pair_shape (num_cz _) (num_cz _) (h.dep 7 rfl)) (h.mono.ok _ _ b563.ok4) h312, trivial⟩
  intro g602 ts v602 hts E602
  simp only [fillL, Nat.reduceAdd, List.setIfInBounds_toArray, List.set_cons_zero, List.set_cons_succ] at hts
  subst hts
  have T603 : Below w.heap.size w v602 := T555.trans E602.below
  have l604 : q293 < v554.heap.size := b561.lt
  have l605 : q299 < v554.heap.size := b562.lt
  have l606 : q306 < v554.heap.size := b563.lt
  have l607 : q330 < v554.heap.size := b564.lt
  have l608 : q366 < v554.heap.size := b565.lt
  have f653 : ((.pair (.cz (zof (decide ((-p) < 0)) (((-p).natAbs) / (Nat.gcd ((-p).natAbs) ((-q).natAbs))))) (.cz ((((-q).natAbs) / (Nat.gcd ((-p).natAbs) ((-q).natAbs)) : Nat) : Int))) : Known).p v602 (g602 7) := E602.facts 7 (by decide)
  obtain ⟨t654, x656, A657, m658, c659, x660, A661, m662, c663, e664, b655⟩ := put_info4 (E602.facts 8 (by decide)) p307 (pair_shape (num_cz _) (num_cz _) f653)
  have f665 : ((.pair (.cz (zof (decide ((-p) < 0)) (((-p).natAbs) / (Nat.gcd ((-p).natAbs) ((-q).natAbs))))) (.cz ((((-q).natAbs) / (Nat.gcd ((-p).natAbs) ((-q).natAbs)) : Nat) : Int))) : Known).p v602 (.agg #[.bool x656, .slice A657 m658 c659, .bool x660, .slice A661 m662 c663]) := pair_at f653 e664.symm
  refine then_normal ?_
  refine wp_ret ?_
  exact bodyPost_ret (ret_r rfl p307 b655) rfl ⟨_, rfl, (by have := f665; rw [Ex1, Ex2] at this; exact this), T603⟩

theorem r3make_k {w : World} {x : Value} {p : Int} {N0 : Nat} (h0 : Az N0 w x p) {y : Value} {q : Int} {N1 : Nat} (h1 : Az N1 w y q) (hN0 : N0 ≤ 1000000000) (hN1 : N1 ≤ 1000000000) (hq : q ≠ 0) : Calls Try.prog 17 #[x, y] w (Ret (.pair (.cz (rn p q)) (.cz (rd p q))) w) := by
  cases d : decide (q.sign < 0) with
  | false => exact r3make_p h0 h1 hN0 hN1 hq d
  | true => exact r3make_n h0 h1 hN0 hN1 hq d

set_option maxHeartbeats 4000000 in
set_option maxRecDepth 8000 in
theorem r3one_k {w : World}  : Calls Try.prog 53 #[] w (Ret (.cz 1) w) := by
  have T0 : Below w.heap.size w w := Below.refl _ _
  go_enter Try.func53, Try.ntmps53
  refine wp_seq ?_
  have HB : w.heap.size ≤ w.heap.size := T0.size
  refine wp_plan_seq [.new 2 (some (24, #[.bool false, .slice none 0 0]))] [] [] w.heap.size (by kernel_rfl) (by kernel_rfl) trivial HB ?_ ?_
  · exact ⟨fun s v h => does_new rfl rfl x_alloc_z (okz _ _ _ _) rfl (.inr rfl), trivial⟩
  intro g666 ts v666 hts E666
  simp only [fillL, List.setIfInBounds_toArray, List.set_cons_zero] at hts
  subst hts
  have T667 : Below w.heap.size w v666 := T0.trans E666.below
  obtain ⟨q668, p669, l670, o671, b672⟩ : ∃ q, g666 0 = .pointer (some ⟨q, 0, none⟩) ∧ w.heap.size ≤ q ∧ OkB v666 q 2 ∧ Bx v666 q 24 #[.bool false, .slice none 0 0] := E666.facts 0 (by decide)
  have h674 : w.heap.size ≤ q668 := Nat.le_trans HB l670
  refine then_normal ?_
  refine wp_seq ?_
  have HB : w.heap.size ≤ v666.heap.size := T667.size
  refine wp_plan_seq [.val (.cz 1), .put 0 1] [0] [q668] w.heap.size (by kernel_rfl) (by kernel_rfl) ⟨p669, b672.lt, (by simp), trivial⟩ HB ?_ ?_
  · exact ⟨fun s v h => does_call rfl rfl (x_call1 Try.call46) (r2of_k rfl (by decide) (by decide)),
      fun s v h => does_put_z rfl rfl ((h.same 0 rfl).trans p669) (h.dep 0 rfl).shape (h.mono.ok _ _ b672.ok2) h674, trivial⟩
  intro g675 ts v675 hts E675
  simp only [fillL, List.setIfInBounds_toArray, List.set_cons_zero, List.set_cons_succ] at hts
  subst hts
  have T676 : Below w.heap.size w v675 := T667.trans E675.below
  have l677 : q668 < v666.heap.size := b672.lt
  have f679 : Cz v675 (g675 0) 1 := E675.facts 0 (by decide)
  obtain ⟨t680, x682, A683, m684, c685, e686, b681⟩ := put_info (E675.facts 1 (by decide)) p669 f679.shape
  have f687 : Cz v675 (.agg #[.bool x682, .slice A683 m684 c685]) 1 := f679.at e686.symm
  refine then_normal ?_
  refine wp_ret ?_
  exact bodyPost_ret (ret_c rfl p669 b681) rfl ⟨_, rfl, f687, T676⟩

set_option maxHeartbeats 4000000 in
set_option maxRecDepth 8000 in
theorem r3of_k {w : World} {x : Value} {p : Int} {N0 : Nat} (h0 : Az N0 w x p) (hN0 : N0 ≤ 1000000000)  : Calls Try.prog 19 #[x] w (Ret (.pair (.cz p) (.cz 1)) w) := by
  have la0 := h0.len
  obtain ⟨na0, A0, n0, c0, M0, rfl, hm0, hz0⟩ := h0.parts
  have T0 : Below w.heap.size w w := Below.refl _ _
  go_enter Try.func19, Try.ntmps19
  refine wp_seq ?_
  have HB : w.heap.size ≤ w.heap.size := T0.size
  refine wp_plan_seq [.new 2 (some (24, #[.bool na0, .slice A0 n0 c0])), .new 4 (some (29, #[.bool false, .slice none 0 0, .bool false, .slice none 0 0]))] [] [] w.heap.size (by kernel_rfl) (by kernel_rfl) trivial HB ?_ ?_
  · exact ⟨fun s v h => does_new rfl rfl (x_box_z (h.same 0 rfl)) (okz _ _ _ _) rfl (.inr rfl),
      fun s v h => does_new rfl rfl x_alloc_r (okr _ _ _ _ _ _ _ _) rfl (.inr rfl), trivial⟩
  intro g688 ts v688 hts E688
  simp only [fillL, Nat.reduceAdd, List.setIfInBounds_toArray, List.set_cons_zero, List.set_cons_succ] at hts
  subst hts
  have T689 : Below w.heap.size w v688 := T0.trans E688.below
  have f690 := (h0.mono E688.mono)
  obtain ⟨q692, p693, l694, o695, b696⟩ : ∃ q, g688 0 = .pointer (some ⟨q, 0, none⟩) ∧ w.heap.size ≤ q ∧ OkB v688 q 2 ∧ Bx v688 q 24 #[.bool na0, .slice A0 n0 c0] := E688.facts 0 (by decide)
  have h697 : w.heap.size ≤ q692 := Nat.le_trans HB l694
  obtain ⟨q698, p699, l700, o701, b702⟩ : ∃ q, g688 1 = .pointer (some ⟨q, 0, none⟩) ∧ w.heap.size ≤ q ∧ OkB v688 q 4 ∧ Bx v688 q 29 #[.bool false, .slice none 0 0, .bool false, .slice none 0 0] := E688.facts 1 (by decide)
  have h704 : w.heap.size ≤ q698 := Nat.le_trans HB l700
  have n705 : q692 ≠ q698 := E688.apart 0 1 (by decide) (by decide) (by decide) ⟨_, _, _, rfl⟩ ⟨_, _, _, rfl⟩ none _ none _ p693 p699
  refine then_normal ?_
  refine wp_seq ?_
  have HB : w.heap.size ≤ v688.heap.size := T689.size
  refine wp_plan_seq [.val (.az N0 p), .val (.cz p), .val (.cz 1), .val (.pair (.cz p) (.cz 1)), .put 2 6] [2] [q698] w.heap.size (by kernel_rfl) (by kernel_rfl) ⟨p699, b702.lt, (by simp), trivial⟩ HB ?_ ?_
  · exact ⟨fun s v h => does_val rfl rfl (x_load_z ((h.same 1 rfl).trans p693) ((h.far q692 b696.lt (nin1 n705)).trans b696)) (f690.mono h.mono),
      fun s v h => does_call rfl rfl (x_call1 Try.call47) (r2norm_k (h.dep 0 rfl) (by omega)),
      fun s v h => does_call rfl rfl (x_call0 Try.call53) (r3one_k),
      fun s v h => does_build_r2 rfl rfl (num_cz _) (num_cz _) (h.dep 1 rfl) (h.dep 2 rfl),
      fun s v h => does_put_r rfl rfl ((h.same 2 rfl).trans p699) (pair_shape (num_cz _) (num_cz _) (h.dep 3 rfl)) (h.mono.ok _ _ b702.ok4) h704, trivial⟩
  intro g706 ts v706 hts E706
  simp only [fillL, Nat.reduceAdd, List.setIfInBounds_toArray, List.set_cons_zero, List.set_cons_succ] at hts
  subst hts
  have T707 : Below w.heap.size w v706 := T689.trans E706.below
  have l708 : q692 < v688.heap.size := b696.lt
  have l709 : q698 < v688.heap.size := b702.lt
  have f717 : ((.pair (.cz p) (.cz 1)) : Known).p v706 (g706 3) := E706.facts 3 (by decide)
  obtain ⟨t718, x720, A721, m722, c723, x724, A725, m726, c727, e728, b719⟩ := put_info4 (E706.facts 4 (by decide)) p699 (pair_shape (num_cz _) (num_cz _) f717)
  have f729 : ((.pair (.cz p) (.cz 1)) : Known).p v706 (.agg #[.bool x720, .slice A721 m722 c723, .bool x724, .slice A725 m726 c727]) := pair_at f717 e728.symm
  refine then_normal ?_
  refine wp_ret ?_
  exact bodyPost_ret (ret_r rfl p699 b719) rfl ⟨_, rfl, f729, T707⟩

set_option maxHeartbeats 4000000 in
set_option maxRecDepth 8000 in
theorem r3half_k {w : World}  : Calls Try.prog 69 #[] w (Ret (.pair (.cz 1) (.cz 2)) w) := by
  have T0 : Below w.heap.size w w := Below.refl _ _
  go_enter Try.func69, Try.ntmps69
  refine wp_seq ?_
  have HB : w.heap.size ≤ w.heap.size := T0.size
  refine wp_plan_seq [.new 4 (some (29, #[.bool false, .slice none 0 0, .bool false, .slice none 0 0]))] [] [] w.heap.size (by kernel_rfl) (by kernel_rfl) trivial HB ?_ ?_
  · exact ⟨fun s v h => does_new rfl rfl x_alloc_r (okr _ _ _ _ _ _ _ _) rfl (.inr rfl), trivial⟩
  intro g730 ts v730 hts E730
  simp only [fillL, List.setIfInBounds_toArray, List.set_cons_zero] at hts
  subst hts
  have T731 : Below w.heap.size w v730 := T0.trans E730.below
  obtain ⟨q732, p733, l734, o735, b736⟩ : ∃ q, g730 0 = .pointer (some ⟨q, 0, none⟩) ∧ w.heap.size ≤ q ∧ OkB v730 q 4 ∧ Bx v730 q 29 #[.bool false, .slice none 0 0, .bool false, .slice none 0 0] := E730.facts 0 (by decide)
  have h738 : w.heap.size ≤ q732 := Nat.le_trans HB l734
  refine then_normal ?_
  refine wp_seq ?_
  have HB : w.heap.size ≤ v730.heap.size := T731.size
  refine wp_plan_seq [.val (.cz 1), .val (.cz 2), .val (.pair (.cz 1) (.cz 2)), .put 0 3] [0] [q732] w.heap.size (by kernel_rfl) (by kernel_rfl) ⟨p733, b736.lt, (by simp), trivial⟩ HB ?_ ?_
  · exact ⟨fun s v h => does_call rfl rfl (x_call0 Try.call53) (r3one_k),
      fun s v h => does_call rfl rfl (x_call1 Try.call46) (r2of_k rfl (by decide) (by decide)),
      fun s v h => does_build_r2 rfl rfl (num_cz _) (num_cz _) (h.dep 0 rfl) (h.dep 1 rfl),
      fun s v h => does_put_r rfl rfl ((h.same 0 rfl).trans p733) (pair_shape (num_cz _) (num_cz _) (h.dep 2 rfl)) (h.mono.ok _ _ b736.ok4) h738, trivial⟩
  intro g739 ts v739 hts E739
  simp only [fillL, Nat.reduceAdd, List.setIfInBounds_toArray, List.set_cons_zero, List.set_cons_succ] at hts
  subst hts
  have T740 : Below w.heap.size w v739 := T731.trans E739.below
  have l741 : q732 < v730.heap.size := b736.lt
  have f745 : ((.pair (.cz 1) (.cz 2)) : Known).p v739 (g739 2) := E739.facts 2 (by decide)
  obtain ⟨t746, x748, A749, m750, c751, x752, A753, m754, c755, e756, b747⟩ := put_info4 (E739.facts 3 (by decide)) p733 (pair_shape (num_cz _) (num_cz _) f745)
  have f757 : ((.pair (.cz 1) (.cz 2)) : Known).p v739 (.agg #[.bool x748, .slice A749 m750 c751, .bool x752, .slice A753 m754 c755]) := pair_at f745 e756.symm
  refine then_normal ?_
  refine wp_ret ?_
  exact bodyPost_ret (ret_r rfl p733 b747) rfl ⟨_, rfl, f757, T740⟩

set_option maxHeartbeats 4000000 in
set_option maxRecDepth 8000 in
theorem r3valid_k {w : World} {x : Value} {p q : Int} {N0 : Nat} (h0 : Rz N0 w x p q) (hN0 : N0 ≤ 100000000)  : Calls Try.prog 65 #[x] w (Ret (.is (.bool (decide (0 < q.sign)))) w) := by
  obtain ⟨na0, A0, n0, c0, nb0, B0, m0, d0, e0r, hx0, hy0⟩ := Rz.parts h0
  subst e0r
  have la0 := hx0.len
  have lb0 := hy0.len
  have T0 : Below w.heap.size w w := Below.refl _ _
  go_enter Try.func65, Try.ntmps65
  refine wp_seq ?_
  have HB : w.heap.size ≤ w.heap.size := T0.size
  refine wp_plan_seq [.new 4 (some (29, #[.bool na0, .slice A0 n0 c0, .bool nb0, .slice B0 m0 d0])), .val (.is (.bool false))] [] [] w.heap.size (by kernel_rfl) (by kernel_rfl) trivial HB ?_ ?_
  · exact ⟨fun s v h => does_new rfl rfl (x_box_r (h.same 0 rfl)) (okr _ _ _ _ _ _ _ _) rfl (.inr rfl),
      fun s v h => does_val rfl rfl (x_assign) rfl, trivial⟩
  intro g758 ts v758 hts E758
  simp only [fillL, Nat.reduceAdd, List.setIfInBounds_toArray, List.set_cons_zero, List.set_cons_succ] at hts
  subst hts
  have T759 : Below w.heap.size w v758 := T0.trans E758.below
  have f760 := (pair_mono h0 E758.mono)
  obtain ⟨q762, p763, l764, o765, b766⟩ : ∃ q, g758 0 = .pointer (some ⟨q, 0, none⟩) ∧ w.heap.size ≤ q ∧ OkB v758 q 4 ∧ Bx v758 q 29 #[.bool na0, .slice A0 n0 c0, .bool nb0, .slice B0 m0 d0] := E758.facts 0 (by decide)
  have h767 : w.heap.size ≤ q762 := Nat.le_trans HB l764
  refine then_normal ?_
  refine wp_seq ?_
  have HB : w.heap.size ≤ v758.heap.size := T759.size
  refine wp_plan_seq [.val (.is (.pointer (some ⟨q762, 2, none⟩))), .val (.az N0 q), .val (.is (.int .i64 q.sign)), .val (.is (.bool (decide (0 < q.sign)))), .val (.is (.bool (decide (0 < q.sign))))] [] [] w.heap.size (by kernel_rfl) (by kernel_rfl) trivial HB ?_ ?_
  · exact ⟨fun s v h => does_val rfl rfl (x_fld_r1 ((h.same 1 rfl).trans p763)) rfl,
      fun s v h => does_val rfl rfl (x_load_r1 (h.dep 0 rfl) ((h.far q762 b766.lt (by simp)).trans b766)) (pair_snd (pair_mono f760 h.mono)),
      fun s v h => does_call rfl rfl (x_call1 Try.call14) (r2sign_k (h.dep 1 rfl) (by omega)),
      fun s v h => does_val rfl rfl (x_gtr (h.dep 2 rfl) rfl) rfl,
      fun s v h => does_val rfl rfl (x_assign) (h.dep 3 rfl), trivial⟩
  intro g768 ts v768 hts E768
  simp only [fillL, Nat.reduceAdd, List.setIfInBounds_toArray, List.set_cons_zero, List.set_cons_succ] at hts
  subst hts
  have T769 : Below w.heap.size w v768 := T759.trans E768.below
  have l770 : q762 < v758.heap.size := b766.lt
  have e776 : g768 4 = (.bool (decide (0 < q.sign))) := E768.facts 4 (by decide)
  refine then_normal ?_
  refine wp_ret ?_
  exact bodyPost_ret (results_tmp (t := 2) rfl _ _ _) rfl ⟨_, rfl, e776, T769⟩

set_option maxHeartbeats 4000000 in
set_option maxRecDepth 8000 in
theorem r3neg_k {w : World} {x : Value} {p q : Int} {N0 : Nat} (h0 : Rz N0 w x p q) (hN0 : N0 ≤ 100000000) (hq : q ≠ 0)  : Calls Try.prog 63 #[x] w (Ret (.pair (.cz (rn (-p) q)) (.cz (rd (-p) q))) w) := by
  obtain ⟨na0, A0, n0, c0, nb0, B0, m0, d0, e0r, hx0, hy0⟩ := Rz.parts h0
  subst e0r
  have la0 := hx0.len
  have lb0 := hy0.len
  have T0 : Below w.heap.size w w := Below.refl _ _
  go_enter Try.func63, Try.ntmps63
  refine wp_seq ?_
  have HB : w.heap.size ≤ w.heap.size := T0.size
  refine wp_plan_seq [.new 4 (some (29, #[.bool na0, .slice A0 n0 c0, .bool nb0, .slice B0 m0 d0])), .new 4 (some (29, #[.bool false, .slice none 0 0, .bool false, .slice none 0 0]))] [] [] w.heap.size (by kernel_rfl) (by kernel_rfl) trivial HB ?_ ?_
  · exact ⟨fun s v h => does_new rfl rfl (x_box_r (h.same 0 rfl)) (okr _ _ _ _ _ _ _ _) rfl (.inr rfl),
      fun s v h => does_new rfl rfl x_alloc_r (okr _ _ _ _ _ _ _ _) rfl (.inr rfl), trivial⟩
  intro g777 ts v777 hts E777
  simp only [fillL, Nat.reduceAdd, List.setIfInBounds_toArray, List.set_cons_zero, List.set_cons_succ] at hts
  subst hts
  have T778 : Below w.heap.size w v777 := T0.trans E777.below
  have f779 := (pair_mono h0 E777.mono)
  obtain ⟨q780, p781, l782, o783, b784⟩ : ∃ q, g777 0 = .pointer (some ⟨q, 0, none⟩) ∧ w.heap.size ≤ q ∧ OkB v777 q 4 ∧ Bx v777 q 29 #[.bool na0, .slice A0 n0 c0, .bool nb0, .slice B0 m0 d0] := E777.facts 0 (by decide)
  have h785 : w.heap.size ≤ q780 := Nat.le_trans HB l782
  obtain ⟨q786, p787, l788, o789, b790⟩ : ∃ q, g777 1 = .pointer (some ⟨q, 0, none⟩) ∧ w.heap.size ≤ q ∧ OkB v777 q 4 ∧ Bx v777 q 29 #[.bool false, .slice none 0 0, .bool false, .slice none 0 0] := E777.facts 1 (by decide)
  have h792 : w.heap.size ≤ q786 := Nat.le_trans HB l788
  have n793 : q780 ≠ q786 := E777.apart 0 1 (by decide) (by decide) (by decide) ⟨_, _, _, rfl⟩ ⟨_, _, _, rfl⟩ none _ none _ p781 p787
  refine then_normal ?_
  refine wp_seq ?_
  have HB : w.heap.size ≤ v777.heap.size := T778.size
  refine wp_plan_any [.val (.is (.pointer (some ⟨q780, 0, none⟩))), .val (.az N0 p), .val (.cz (-p)), .val (.is (.pointer (some ⟨q780, 2, none⟩))), .val (.az N0 q), .val (.pair (.cz (rn (-p) q)) (.cz (rd (-p) q))), .put 2 8] [2] [q786] w.heap.size (by kernel_rfl) (by kernel_rfl) (by kernel_rfl) ⟨p787, b790.lt, (by simp), trivial⟩ HB ?_ ?_
  · exact ⟨fun s v h => does_val rfl rfl (x_fld_r0 ((h.same 1 rfl).trans p781)) rfl,
      fun s v h => does_val rfl rfl (x_load_r0 (h.dep 0 rfl) ((h.far q780 b784.lt (nin1 n793)).trans b784)) (pair_fst (pair_mono f779 ((Mono.drew _).trans h.mono))),
      fun s v h => does_call rfl rfl (x_call1 Try.call48) (r2neg_k (h.dep 1 rfl) (by omega)),
      fun s v h => does_val rfl rfl (x_fld_r1 ((h.same 1 rfl).trans p781)) rfl,
      fun s v h => does_val rfl rfl (x_load_r1 (h.dep 3 rfl) ((h.far q780 b784.lt (nin1 n793)).trans b784)) (pair_snd (pair_mono f779 ((Mono.drew _).trans h.mono))),
      fun s v h => does_call rfl rfl (x_call2 Try.call17) (r3make_k ((h.dep 2 rfl).az (N := N0) (len_neg la0)) (h.dep 4 rfl) (by omega) (by omega) hq),
      fun s v h => does_put_r rfl rfl ((h.same 2 rfl).trans p787) (pair_shape (num_cz _) (num_cz _) (h.dep 5 rfl)) (((Mono.drew _).trans h.mono).ok _ _ b790.ok4) h792, trivial⟩
  intro g794 ts v794 hts E794
  simp only [fillL, Nat.reduceAdd, List.setIfInBounds_toArray, List.set_cons_zero, List.set_cons_succ] at hts
  subst hts
  have T795 : Below w.heap.size w v794 := (below_toDrew T778).trans E794.below
  have l796 : q780 < v777.heap.size := b784.lt
  have l797 : q786 < v777.heap.size := b790.lt
  have f804 : ((.pair (.cz (rn (-p) q)) (.cz (rd (-p) q))) : Known).p v794 (g794 5) := E794.facts 5 (by decide)
  obtain ⟨t805, x807, A808, m809, c810, x811, A812, m813, c814, e815, b806⟩ := put_info4 (E794.facts 6 (by decide)) p787 (pair_shape (num_cz _) (num_cz _) f804)
  have f816 : ((.pair (.cz (rn (-p) q)) (.cz (rd (-p) q))) : Known).p v794 (.agg #[.bool x807, .slice A808 m809 c810, .bool x811, .slice A812 m813 c814]) := pair_at f804 e815.symm
  refine then_normal ?_
  refine wp_ret ?_
  exact bodyPost_ret (ret_r rfl p787 b806) rfl ⟨_, rfl, f816, T795⟩

set_option maxHeartbeats 4000000 in
set_option maxRecDepth 8000 in
theorem r3add_k {w : World} {x : Value} {p q : Int} {N0 : Nat} (h0 : Rz N0 w x p q) {y : Value} {p1 q1 : Int} {N1 : Nat} (h1 : Rz N1 w y p1 q1) (hN0 : N0 ≤ 100000000) (hN1 : N1 ≤ 100000000) (hq : q ≠ 0) (hq1 : q1 ≠ 0)  : Calls Try.prog 25 #[x, y] w (Ret (.pair (.cz (rn ((p * q1) + (p1 * q)) (q * q1))) (.cz (rd ((p * q1) + (p1 * q)) (q * q1)))) w) := by
  obtain ⟨na0, A0, n0, c0, nb0, B0, m0, d0, e0r, hx0, hy0⟩ := Rz.parts h0
  subst e0r
  have la0 := hx0.len
  have lb0 := hy0.len
  obtain ⟨na1, A1, n1, c1, nb1, B1, m1, d1, e1r, hx1, hy1⟩ := Rz.parts h1
  subst e1r
  have la1 := hx1.len
  have lb1 := hy1.len
  have T0 : Below w.heap.size w w := Below.refl _ _
  go_enter Try.func25, Try.ntmps25
  refine wp_seq ?_
  have HB : w.heap.size ≤ w.heap.size := T0.size
  refine wp_plan_seq [.new 4 (some (29, #[.bool na0, .slice A0 n0 c0, .bool nb0, .slice B0 m0 d0])), .new 4 (some (29, #[.bool na1, .slice A1 n1 c1, .bool nb1, .slice B1 m1 d1])), .new 4 (some (29, #[.bool false, .slice none 0 0, .bool false, .slice none 0 0]))] [] [] w.heap.size (by kernel_rfl) (by kernel_rfl) trivial HB ?_ ?_
  · exact ⟨fun s v h => does_new rfl rfl (x_box_r (h.same 0 rfl)) (okr _ _ _ _ _ _ _ _) rfl (.inr rfl),
      fun s v h => does_new rfl rfl (x_box_r (h.same 1 rfl)) (okr _ _ _ _ _ _ _ _) rfl (.inr rfl),
      fun s v h => does_new rfl rfl x_alloc_r (okr _ _ _ _ _ _ _ _) rfl (.inr rfl), trivial⟩
  intro g817 ts v817 hts E817
  simp only [fillL, Nat.reduceAdd, List.setIfInBounds_toArray, List.set_cons_zero, List.set_cons_succ] at hts
  subst hts
  have T818 : Below w.heap.size w v817 := T0.trans E817.below
  have f819 := (pair_mono h0 E817.mono)
  have f820 := (pair_mono h1 E817.mono)
  obtain ⟨q821, p822, l823, o824, b825⟩ : ∃ q, g817 0 = .pointer (some ⟨q, 0, none⟩) ∧ w.heap.size ≤ q ∧ OkB v817 q 4 ∧ Bx v817 q 29 #[.bool na0, .slice A0 n0 c0, .bool nb0, .slice B0 m0 d0] := E817.facts 0 (by decide)
  have h826 : w.heap.size ≤ q821 := Nat.le_trans HB l823
  obtain ⟨q827, p828, l829, o830, b831⟩ : ∃ q, g817 1 = .pointer (some ⟨q, 0, none⟩) ∧ w.heap.size ≤ q ∧ OkB v817 q 4 ∧ Bx v817 q 29 #[.bool na1, .slice A1 n1 c1, .bool nb1, .slice B1 m1 d1] := E817.facts 1 (by decide)
  have h832 : w.heap.size ≤ q827 := Nat.le_trans HB l829
  obtain ⟨q834, p835, l836, o837, b838⟩ : ∃ q, g817 2 = .pointer (some ⟨q, 0, none⟩) ∧ w.heap.size ≤ q ∧ OkB v817 q 4 ∧ Bx v817 q 29 #[.bool false, .slice none 0 0, .bool false, .slice none 0 0] := E817.facts 2 (by decide)
  have h840 : w.heap.size ≤ q834 := Nat.le_trans HB l836
  have n841 : q821 ≠ q834 := E817.apart 0 2 (by decide) (by decide) (by decide) ⟨_, _, _, rfl⟩ ⟨_, _, _, rfl⟩ none _ none _ p822 p835
  have n842 : q827 ≠ q834 := E817.apart 1 2 (by decide) (by decide) (by decide) ⟨_, _, _, rfl⟩ ⟨_, _, _, rfl⟩ none _ none _ p828 p835
  refine then_normal ?_
  refine wp_seq ?_
  have HB : w.heap.size ≤ v817.heap.size := T818.size
  refine wp_plan_seq [.val (.is (.pointer (some ⟨q821, 0, none⟩))), .val (.az N0 p), .val (.is (.pointer (some ⟨q827, 2, none⟩))), .val (.az N1 q1), .val (.cz (p * q1)), .new 2 none, .put 5 11] [] [] w.heap.size (by kernel_rfl) (by kernel_rfl) trivial HB ?_ ?_
  · exact ⟨fun s v h => does_val rfl rfl (x_fld_r0 ((h.same 2 rfl).trans p822)) rfl,
      fun s v h => does_val rfl rfl (x_load_r0 (h.dep 0 rfl) ((h.far q821 b825.lt (by simp)).trans b825)) (pair_fst (pair_mono f819 h.mono)),
      fun s v h => does_val rfl rfl (x_fld_r1 ((h.same 3 rfl).trans p828)) rfl,
      fun s v h => does_val rfl rfl (x_load_r1 (h.dep 2 rfl) ((h.far q827 b831.lt (by simp)).trans b831)) (pair_snd (pair_mono f820 h.mono)),
      fun s v h => does_call rfl rfl (x_call2 Try.call61) (r2mul_k (h.dep 1 rfl) (h.dep 3 rfl) (by omega)),
      fun s v h => does_new rfl rfl x_alloc_z (okz _ _ _ _) rfl (.inl rfl),
      fun s v h => by obtain ⟨q, e1, e2, e3⟩ := new_at (h.dep 5 rfl); exact does_put_z rfl rfl e1 (h.dep 4 rfl).shape e3 (Nat.le_trans HB e2), trivial⟩
  intro g843 ts v843 hts E843
  simp only [fillL, Nat.reduceAdd, List.setIfInBounds_toArray, List.set_cons_zero, List.set_cons_succ] at hts
  subst hts
  have T844 : Below w.heap.size w v843 := T818.trans E843.below
  have l845 : q821 < v817.heap.size := b825.lt
  have l846 : q827 < v817.heap.size := b831.lt
  have l847 : q834 < v817.heap.size := b838.lt
  have b848 : Bx v843 q821 29 #[.bool na0, .slice A0 n0 c0, .bool nb0, .slice B0 m0 d0] := (E843.far q821 b825.lt (by simp)).trans b825
  have b849 : Bx v843 q827 29 #[.bool na1, .slice A1 n1 c1, .bool nb1, .slice B1 m1 d1] := (E843.far q827 b831.lt (by simp)).trans b831
  have b850 : Bx v843 q834 29 #[.bool false, .slice none 0 0, .bool false, .slice none 0 0] := (E843.far q834 b838.lt (by simp)).trans b838
  have f851 := (pair_mono f819 E843.mono)
  have f852 := (pair_mono f820 E843.mono)
  have f856 : Cz v843 (g843 4) (p * q1) := E843.facts 4 (by decide)
  obtain ⟨q857, p858, l859, o860⟩ : ∃ q, g843 5 = .pointer (some ⟨q, 0, none⟩) ∧ v817.heap.size ≤ q ∧ OkB v843 q 2 := E843.facts 5 (by decide)
  have h861 : w.heap.size ≤ q857 := Nat.le_trans HB l859
  have n864 : q834 ≠ q857 := by omega
  obtain ⟨t865, x867, A868, m869, c870, e871, b866⟩ := put_info (E843.facts 6 (by decide)) p858 f856.shape
  have f872 : Cz v843 (.agg #[.bool x867, .slice A868 m869 c870]) (p * q1) := f856.at e871.symm
  refine then_normal ?_
  refine wp_seq ?_
  have HB : w.heap.size ≤ v843.heap.size := T844.size
  refine wp_plan_seq [.val (.is (.pointer (some ⟨q827, 0, none⟩))), .val (.az N1 p1), .val (.is (.pointer (some ⟨q821, 2, none⟩))), .val (.az N0 q), .val (.cz (p1 * q)), .new 2 none, .put 6 16] [] [] w.heap.size (by kernel_rfl) (by kernel_rfl) trivial HB ?_ ?_
  · exact ⟨fun s v h => does_val rfl rfl (x_fld_r0 ((h.same 3 rfl).trans p828)) rfl,
      fun s v h => does_val rfl rfl (x_load_r0 (h.dep 0 rfl) ((h.far q827 b849.lt (by simp)).trans b849)) (pair_fst (pair_mono f852 h.mono)),
      fun s v h => does_val rfl rfl (x_fld_r1 ((h.same 2 rfl).trans p822)) rfl,
      fun s v h => does_val rfl rfl (x_load_r1 (h.dep 2 rfl) ((h.far q821 b848.lt (by simp)).trans b848)) (pair_snd (pair_mono f851 h.mono)),
      fun s v h => does_call rfl rfl (x_call2 Try.call61) (r2mul_k (h.dep 1 rfl) (h.dep 3 rfl) (by omega)),
      fun s v h => does_new rfl rfl x_alloc_z (okz _ _ _ _) rfl (.inl rfl),
      fun s v h => by obtain ⟨q, e1, e2, e3⟩ := new_at (h.dep 5 rfl); exact does_put_z rfl rfl e1 (h.dep 4 rfl).shape e3 (Nat.le_trans HB e2), trivial⟩
  intro g873 ts v873 hts E873
  simp only [fillL, Nat.reduceAdd, List.setIfInBounds_toArray, List.set_cons_zero, List.set_cons_succ] at hts
  subst hts
  have T874 : Below w.heap.size w v873 := T844.trans E873.below
  have l875 : q821 < v843.heap.size := b848.lt
  have l876 : q827 < v843.heap.size := b849.lt
  have l877 : q834 < v843.heap.size := b850.lt
  have l878 : q857 < v843.heap.size := b866.lt
  have b879 : Bx v873 q821 29 #[.bool na0, .slice A0 n0 c0, .bool nb0, .slice B0 m0 d0] := (E873.far q821 b848.lt (by simp)).trans b848
  have b880 : Bx v873 q827 29 #[.bool na1, .slice A1 n1 c1, .bool nb1, .slice B1 m1 d1] := (E873.far q827 b849.lt (by simp)).trans b849
  have b881 : Bx v873 q834 29 #[.bool false, .slice none 0 0, .bool false, .slice none 0 0] := (E873.far q834 b850.lt (by simp)).trans b850
  have b882 : Bx v873 q857 t865 #[.bool x867, .slice A868 m869 c870] := (E873.far q857 b866.lt (by simp)).trans b866
  have f883 := (pair_mono f851 E873.mono)
  have f884 := (pair_mono f852 E873.mono)
  have f889 := (f872.mono E873.mono)
  have f892 : Cz v873 (g873 4) (p1 * q) := E873.facts 4 (by decide)
  obtain ⟨q893, p894, l895, o896⟩ : ∃ q, g873 5 = .pointer (some ⟨q, 0, none⟩) ∧ v843.heap.size ≤ q ∧ OkB v873 q 2 := E873.facts 5 (by decide)
  have h897 : w.heap.size ≤ q893 := Nat.le_trans HB l895
  have n900 : q834 ≠ q893 := by omega
  obtain ⟨t902, x904, A905, m906, c907, e908, b903⟩ := put_info (E873.facts 6 (by decide)) p894 f892.shape
  have f909 : Cz v873 (.agg #[.bool x904, .slice A905 m906 c907]) (p1 * q) := f892.at e908.symm
  refine then_normal ?_
  refine wp_seq ?_
  have HB : w.heap.size ≤ v873.heap.size := T874.size
  refine wp_plan_any [.val (.cz (p * q1)), .val (.cz (p1 * q)), .val (.cz ((p * q1) + (p1 * q))), .val (.is (.pointer (some ⟨q821, 2, none⟩))), .val (.az N0 q), .val (.is (.pointer (some ⟨q827, 2, none⟩))), .val (.az N1 q1), .val (.cz (q * q1)), .val (.pair (.cz (rn ((p * q1) + (p1 * q)) (q * q1))) (.cz (rd ((p * q1) + (p1 * q)) (q * q1)))), .put 4 25] [4] [q834] w.heap.size (by kernel_rfl) (by kernel_rfl) (by kernel_rfl) ⟨p835, b881.lt, (by simp), trivial⟩ HB ?_ ?_
  · exact ⟨fun s v h => does_val rfl rfl (x_load_z ((h.same 5 rfl).trans p858) ((h.far q857 b882.lt (nin1 n864.symm)).trans b882)) (f889.mono ((Mono.drew _).trans h.mono)),
      fun s v h => does_val rfl rfl (x_load_z ((h.same 6 rfl).trans p894) ((h.far q893 b903.lt (nin1 n900.symm)).trans b903)) (f909.mono ((Mono.drew _).trans h.mono)),
      fun s v h => does_call rfl rfl (x_call2 Try.call62) (r2add_k ((h.dep 0 rfl).az (N := (N0 + N1)) (len_mul la0 lb1)) ((h.dep 1 rfl).az (N := (N1 + N0)) (len_mul la1 lb0)) (by omega) (by omega)),
      fun s v h => does_val rfl rfl (x_fld_r1 ((h.same 2 rfl).trans p822)) rfl,
      fun s v h => does_val rfl rfl (x_load_r1 (h.dep 3 rfl) ((h.far q821 b879.lt (nin1 n841)).trans b879)) (pair_snd (pair_mono f883 ((Mono.drew _).trans h.mono))),
      fun s v h => does_val rfl rfl (x_fld_r1 ((h.same 3 rfl).trans p828)) rfl,
      fun s v h => does_val rfl rfl (x_load_r1 (h.dep 5 rfl) ((h.far q827 b880.lt (nin1 n842)).trans b880)) (pair_snd (pair_mono f884 ((Mono.drew _).trans h.mono))),
      fun s v h => does_call rfl rfl (x_call2 Try.call61) (r2mul_k (h.dep 4 rfl) (h.dep 6 rfl) (by omega)),
      fun s v h => does_call rfl rfl (x_call2 Try.call17) (r3make_k ((h.dep 2 rfl).az (N := (max (N0 + N1) (N1 + N0) + 1)) (len_add' (n := (max (N0 + N1) (N1 + N0) + 1)) (len_mul la0 lb1) (len_mul la1 lb0) (by omega) (by omega))) ((h.dep 7 rfl).az (N := (N0 + N1)) (len_mul lb0 lb1)) (by omega) (by omega) (Int.mul_ne_zero hq hq1)),
      fun s v h => does_put_r rfl rfl ((h.same 4 rfl).trans p835) (pair_shape (num_cz _) (num_cz _) (h.dep 8 rfl)) (((Mono.drew _).trans h.mono).ok _ _ b881.ok4) h840, trivial⟩
  intro g910 ts v910 hts E910
  simp only [fillL, Nat.reduceAdd, List.setIfInBounds_toArray, List.set_cons_zero, List.set_cons_succ] at hts
  subst hts
  have T911 : Below w.heap.size w v910 := (below_toDrew T874).trans E910.below
  have l912 : q821 < v873.heap.size := b879.lt
  have l913 : q827 < v873.heap.size := b880.lt
  have l914 : q834 < v873.heap.size := b881.lt
  have l915 : q857 < v873.heap.size := b882.lt
  have l916 : q893 < v873.heap.size := b903.lt
  have f938 : ((.pair (.cz (rn ((p * q1) + (p1 * q)) (q * q1))) (.cz (rd ((p * q1) + (p1 * q)) (q * q1)))) : Known).p v910 (g910 8) := E910.facts 8 (by decide)
  obtain ⟨t939, x941, A942, m943, c944, x945, A946, m947, c948, e949, b940⟩ := put_info4 (E910.facts 9 (by decide)) p835 (pair_shape (num_cz _) (num_cz _) f938)
  have f950 : ((.pair (.cz (rn ((p * q1) + (p1 * q)) (q * q1))) (.cz (rd ((p * q1) + (p1 * q)) (q * q1)))) : Known).p v910 (.agg #[.bool x941, .slice A942 m943 c944, .bool x945, .slice A946 m947 c948]) := pair_at f938 e949.symm
  refine then_normal ?_
  refine wp_ret ?_
  exact bodyPost_ret (ret_r rfl p835 b940) rfl ⟨_, rfl, f950, T911⟩

set_option maxHeartbeats 4000000 in
set_option maxRecDepth 8000 in
theorem r3mul_k {w : World} {x : Value} {p q : Int} {N0 : Nat} (h0 : Rz N0 w x p q) {y : Value} {p1 q1 : Int} {N1 : Nat} (h1 : Rz N1 w y p1 q1) (hN0 : N0 ≤ 100000000) (hN1 : N1 ≤ 100000000) (hq : q ≠ 0) (hq1 : q1 ≠ 0)  : Calls Try.prog 29 #[x, y] w (Ret (.pair (.cz (rn (p * p1) (q * q1))) (.cz (rd (p * p1) (q * q1)))) w) := by
  obtain ⟨na0, A0, n0, c0, nb0, B0, m0, d0, e0r, hx0, hy0⟩ := Rz.parts h0
  subst e0r
  have la0 := hx0.len
  have lb0 := hy0.len
  obtain ⟨na1, A1, n1, c1, nb1, B1, m1, d1, e1r, hx1, hy1⟩ := Rz.parts h1
  subst e1r
  have la1 := hx1.len
  have lb1 := hy1.len
  have T0 : Below w.heap.size w w := Below.refl _ _
  go_enter Try.func29, Try.ntmps29
  refine wp_seq ?_
  have HB : w.heap.size ≤ w.heap.size := T0.size
  refine wp_plan_seq [.new 4 (some (29, #[.bool na0, .slice A0 n0 c0, .bool nb0, .slice B0 m0 d0])), .new 4 (some (29, #[.bool na1, .slice A1 n1 c1, .bool nb1, .slice B1 m1 d1])), .new 4 (some (29, #[.bool false, .slice none 0 0, .bool false, .slice none 0 0]))] [] [] w.heap.size (by kernel_rfl) (by kernel_rfl) trivial HB ?_ ?_
  · exact ⟨fun s v h => does_new rfl rfl (x_box_r (h.same 0 rfl)) (okr _ _ _ _ _ _ _ _) rfl (.inr rfl),
      fun s v h => does_new rfl rfl (x_box_r (h.same 1 rfl)) (okr _ _ _ _ _ _ _ _) rfl (.inr rfl),
      fun s v h => does_new rfl rfl x_alloc_r (okr _ _ _ _ _ _ _ _) rfl (.inr rfl), trivial⟩
  intro g951 ts v951 hts E951
  simp only [fillL, Nat.reduceAdd, List.setIfInBounds_toArray, List.set_cons_zero, List.set_cons_succ] at hts
  subst hts
  have T952 : Below w.heap.size w v951 := T0.trans E951.below
  have f953 := (pair_mono h0 E951.mono)
  have f954 := (pair_mono h1 E951.mono)
  obtain ⟨q955, p956, l957, o958, b959⟩ : ∃ q, g951 0 = .pointer (some ⟨q, 0, none⟩) ∧ w.heap.size ≤ q ∧ OkB v951 q 4 ∧ Bx v951 q 29 #[.bool na0, .slice A0 n0 c0, .bool nb0, .slice B0 m0 d0] := E951.facts 0 (by decide)
  have h960 : w.heap.size ≤ q955 := Nat.le_trans HB l957
  obtain ⟨q961, p962, l963, o964, b965⟩ : ∃ q, g951 1 = .pointer (some ⟨q, 0, none⟩) ∧ w.heap.size ≤ q ∧ OkB v951 q 4 ∧ Bx v951 q 29 #[.bool na1, .slice A1 n1 c1, .bool nb1, .slice B1 m1 d1] := E951.facts 1 (by decide)
  have h966 : w.heap.size ≤ q961 := Nat.le_trans HB l963
  obtain ⟨q968, p969, l970, o971, b972⟩ : ∃ q, g951 2 = .pointer (some ⟨q, 0, none⟩) ∧ w.heap.size ≤ q ∧ OkB v951 q 4 ∧ Bx v951 q 29 #[.bool false, .slice none 0 0, .bool false, .slice none 0 0] := E951.facts 2 (by decide)
  have h974 : w.heap.size ≤ q968 := Nat.le_trans HB l970
  have n975 : q955 ≠ q968 := E951.apart 0 2 (by decide) (by decide) (by decide) ⟨_, _, _, rfl⟩ ⟨_, _, _, rfl⟩ none _ none _ p956 p969
  have n976 : q961 ≠ q968 := E951.apart 1 2 (by decide) (by decide) (by decide) ⟨_, _, _, rfl⟩ ⟨_, _, _, rfl⟩ none _ none _ p962 p969
  refine then_normal ?_
  refine wp_seq ?_
  have HB : w.heap.size ≤ v951.heap.size := T952.size
  refine wp_plan_any [.val (.is (.pointer (some ⟨q955, 0, none⟩))), .val (.az N0 p), .val (.is (.pointer (some ⟨q961, 0, none⟩))), .val (.az N1 p1), .val (.cz (p * p1)), .val (.is (.pointer (some ⟨q955, 2, none⟩))), .val (.az N0 q), .val (.is (.pointer (some ⟨q961, 2, none⟩))), .val (.az N1 q1), .val (.cz (q * q1)), .val (.pair (.cz (rn (p * p1) (q * q1))) (.cz (rd (p * p1) (q * q1)))), .put 4 15] [4] [q968] w.heap.size (by kernel_rfl) (by kernel_rfl) (by kernel_rfl) ⟨p969, b972.lt, (by simp), trivial⟩ HB ?_ ?_
  · exact ⟨fun s v h => does_val rfl rfl (x_fld_r0 ((h.same 2 rfl).trans p956)) rfl,
      fun s v h => does_val rfl rfl (x_load_r0 (h.dep 0 rfl) ((h.far q955 b959.lt (nin1 n975)).trans b959)) (pair_fst (pair_mono f953 ((Mono.drew _).trans h.mono))),
      fun s v h => does_val rfl rfl (x_fld_r0 ((h.same 3 rfl).trans p962)) rfl,
      fun s v h => does_val rfl rfl (x_load_r0 (h.dep 2 rfl) ((h.far q961 b965.lt (nin1 n976)).trans b965)) (pair_fst (pair_mono f954 ((Mono.drew _).trans h.mono))),
      fun s v h => does_call rfl rfl (x_call2 Try.call61) (r2mul_k (h.dep 1 rfl) (h.dep 3 rfl) (by omega)),
      fun s v h => does_val rfl rfl (x_fld_r1 ((h.same 2 rfl).trans p956)) rfl,
      fun s v h => does_val rfl rfl (x_load_r1 (h.dep 5 rfl) ((h.far q955 b959.lt (nin1 n975)).trans b959)) (pair_snd (pair_mono f953 ((Mono.drew _).trans h.mono))),
      fun s v h => does_val rfl rfl (x_fld_r1 ((h.same 3 rfl).trans p962)) rfl,
      fun s v h => does_val rfl rfl (x_load_r1 (h.dep 7 rfl) ((h.far q961 b965.lt (nin1 n976)).trans b965)) (pair_snd (pair_mono f954 ((Mono.drew _).trans h.mono))),
      fun s v h => does_call rfl rfl (x_call2 Try.call61) (r2mul_k (h.dep 6 rfl) (h.dep 8 rfl) (by omega)),
      fun s v h => does_call rfl rfl (x_call2 Try.call17) (r3make_k ((h.dep 4 rfl).az (N := (N0 + N1)) (len_mul la0 la1)) ((h.dep 9 rfl).az (N := (N0 + N1)) (len_mul lb0 lb1)) (by omega) (by omega) (Int.mul_ne_zero hq hq1)),
      fun s v h => does_put_r rfl rfl ((h.same 4 rfl).trans p969) (pair_shape (num_cz _) (num_cz _) (h.dep 10 rfl)) (((Mono.drew _).trans h.mono).ok _ _ b972.ok4) h974, trivial⟩
  intro g977 ts v977 hts E977
  simp only [fillL, Nat.reduceAdd, List.setIfInBounds_toArray, List.set_cons_zero, List.set_cons_succ] at hts
  subst hts
  have T978 : Below w.heap.size w v977 := (below_toDrew T952).trans E977.below
  have l979 : q955 < v951.heap.size := b959.lt
  have l980 : q961 < v951.heap.size := b965.lt
  have l981 : q968 < v951.heap.size := b972.lt
  have f993 : ((.pair (.cz (rn (p * p1) (q * q1))) (.cz (rd (p * p1) (q * q1)))) : Known).p v977 (g977 10) := E977.facts 10 (by decide)
  obtain ⟨t994, x996, A997, m998, c999, x1000, A1001, m1002, c1003, e1004, b995⟩ := put_info4 (E977.facts 11 (by decide)) p969 (pair_shape (num_cz _) (num_cz _) f993)
  have f1005 : ((.pair (.cz (rn (p * p1) (q * q1))) (.cz (rd (p * p1) (q * q1)))) : Known).p v977 (.agg #[.bool x996, .slice A997 m998 c999, .bool x1000, .slice A1001 m1002 c1003]) := pair_at f993 e1004.symm
  refine then_normal ?_
  refine wp_ret ?_
  exact bodyPost_ret (ret_r rfl p969 b995) rfl ⟨_, rfl, f1005, T978⟩

set_option maxHeartbeats 4000000 in
set_option maxRecDepth 8000 in
theorem r3div_k {w : World} {x : Value} {p q : Int} {N0 : Nat} (h0 : Rz N0 w x p q) {y : Value} {p1 q1 : Int} {N1 : Nat} (h1 : Rz N1 w y p1 q1) (hN0 : N0 ≤ 100000000) (hN1 : N1 ≤ 100000000) (hq : q ≠ 0) (hq1 : q1 ≠ 0) (hp1 : p1 ≠ 0)  : Calls Try.prog 30 #[x, y] w (Ret (.pair (.cz (rn (p * q1) (q * p1))) (.cz (rd (p * q1) (q * p1)))) w) := by
  have _u := hq1
  obtain ⟨na0, A0, n0, c0, nb0, B0, m0, d0, e0r, hx0, hy0⟩ := Rz.parts h0
  subst e0r
  have la0 := hx0.len
  have lb0 := hy0.len
  obtain ⟨na1, A1, n1, c1, nb1, B1, m1, d1, e1r, hx1, hy1⟩ := Rz.parts h1
  subst e1r
  have la1 := hx1.len
  have lb1 := hy1.len
  have T0 : Below w.heap.size w w := Below.refl _ _
  go_enter Try.func30, Try.ntmps30
  refine wp_seq ?_
  have HB : w.heap.size ≤ w.heap.size := T0.size
  refine wp_plan_seq [.new 4 (some (29, #[.bool na0, .slice A0 n0 c0, .bool nb0, .slice B0 m0 d0])), .new 4 (some (29, #[.bool na1, .slice A1 n1 c1, .bool nb1, .slice B1 m1 d1])), .new 4 (some (29, #[.bool false, .slice none 0 0, .bool false, .slice none 0 0]))] [] [] w.heap.size (by kernel_rfl) (by kernel_rfl) trivial HB ?_ ?_
  · exact ⟨fun s v h => does_new rfl rfl (x_box_r (h.same 0 rfl)) (okr _ _ _ _ _ _ _ _) rfl (.inr rfl),
      fun s v h => does_new rfl rfl (x_box_r (h.same 1 rfl)) (okr _ _ _ _ _ _ _ _) rfl (.inr rfl),
      fun s v h => does_new rfl rfl x_alloc_r (okr _ _ _ _ _ _ _ _) rfl (.inr rfl), trivial⟩
  intro g1006 ts v1006 hts E1006
  simp only [fillL, Nat.reduceAdd, List.setIfInBounds_toArray, List.set_cons_zero, List.set_cons_succ] at hts
  subst hts
  have T1007 : Below w.heap.size w v1006 := T0.trans E1006.below
  have f1008 := (pair_mono h0 E1006.mono)
  have f1009 := (pair_mono h1 E1006.mono)
  obtain ⟨q1010, p1011, l1012, o1013, b1014⟩ : ∃ q, g1006 0 = .pointer (some ⟨q, 0, none⟩) ∧ w.heap.size ≤ q ∧ OkB v1006 q 4 ∧ Bx v1006 q 29 #[.bool na0, .slice A0 n0 c0, .bool nb0, .slice B0 m0 d0] := E1006.facts 0 (by decide)
  have h1015 : w.heap.size ≤ q1010 := Nat.le_trans HB l1012
  obtain ⟨q1016, p1017, l1018, o1019, b1020⟩ : ∃ q, g1006 1 = .pointer (some ⟨q, 0, none⟩) ∧ w.heap.size ≤ q ∧ OkB v1006 q 4 ∧ Bx v1006 q 29 #[.bool na1, .slice A1 n1 c1, .bool nb1, .slice B1 m1 d1] := E1006.facts 1 (by decide)
  have h1021 : w.heap.size ≤ q1016 := Nat.le_trans HB l1018
  obtain ⟨q1023, p1024, l1025, o1026, b1027⟩ : ∃ q, g1006 2 = .pointer (some ⟨q, 0, none⟩) ∧ w.heap.size ≤ q ∧ OkB v1006 q 4 ∧ Bx v1006 q 29 #[.bool false, .slice none 0 0, .bool false, .slice none 0 0] := E1006.facts 2 (by decide)
  have h1029 : w.heap.size ≤ q1023 := Nat.le_trans HB l1025
  have n1030 : q1010 ≠ q1023 := E1006.apart 0 2 (by decide) (by decide) (by decide) ⟨_, _, _, rfl⟩ ⟨_, _, _, rfl⟩ none _ none _ p1011 p1024
  have n1031 : q1016 ≠ q1023 := E1006.apart 1 2 (by decide) (by decide) (by decide) ⟨_, _, _, rfl⟩ ⟨_, _, _, rfl⟩ none _ none _ p1017 p1024
  refine then_normal ?_
  refine wp_seq ?_
  have HB : w.heap.size ≤ v1006.heap.size := T1007.size
  refine wp_plan_any [.val (.is (.pointer (some ⟨q1010, 0, none⟩))), .val (.az N0 p), .val (.is (.pointer (some ⟨q1016, 2, none⟩))), .val (.az N1 q1), .val (.cz (p * q1)), .val (.is (.pointer (some ⟨q1010, 2, none⟩))), .val (.az N0 q), .val (.is (.pointer (some ⟨q1016, 0, none⟩))), .val (.az N1 p1), .val (.cz (q * p1)), .val (.pair (.cz (rn (p * q1) (q * p1))) (.cz (rd (p * q1) (q * p1)))), .put 4 15] [4] [q1023] w.heap.size (by kernel_rfl) (by kernel_rfl) (by kernel_rfl) ⟨p1024, b1027.lt, (by simp), trivial⟩ HB ?_ ?_
  · exact ⟨fun s v h => does_val rfl rfl (x_fld_r0 ((h.same 2 rfl).trans p1011)) rfl,
      fun s v h => does_val rfl rfl (x_load_r0 (h.dep 0 rfl) ((h.far q1010 b1014.lt (nin1 n1030)).trans b1014)) (pair_fst (pair_mono f1008 ((Mono.drew _).trans h.mono))),
      fun s v h => does_val rfl rfl (x_fld_r1 ((h.same 3 rfl).trans p1017)) rfl,
      fun s v h => does_val rfl rfl (x_load_r1 (h.dep 2 rfl) ((h.far q1016 b1020.lt (nin1 n1031)).trans b1020)) (pair_snd (pair_mono f1009 ((Mono.drew _).trans h.mono))),
      fun s v h => does_call rfl rfl (x_call2 Try.call61) (r2mul_k (h.dep 1 rfl) (h.dep 3 rfl) (by omega)),
      fun s v h => does_val rfl rfl (x_fld_r1 ((h.same 2 rfl).trans p1011)) rfl,
      fun s v h => does_val rfl rfl (x_load_r1 (h.dep 5 rfl) ((h.far q1010 b1014.lt (nin1 n1030)).trans b1014)) (pair_snd (pair_mono f1008 ((Mono.drew _).trans h.mono))),
      fun s v h => does_val rfl rfl (x_fld_r0 ((h.same 3 rfl).trans p1017)) rfl,
      fun s v h => does_val rfl rfl (x_load_r0 (h.dep 7 rfl) ((h.far q1016 b1020.lt (nin1 n1031)).trans b1020)) (pair_fst (pair_mono f1009 ((Mono.drew _).trans h.mono))),
      fun s v h => does_call rfl rfl (x_call2 Try.call61) (r2mul_k (h.dep 6 rfl) (h.dep 8 rfl) (by omega)),
      fun s v h => does_call rfl rfl (x_call2 Try.call17) (r3make_k ((h.dep 4 rfl).az (N := (N0 + N1)) (len_mul la0 lb1)) ((h.dep 9 rfl).az (N := (N0 + N1)) (len_mul lb0 la1)) (by omega) (by omega) (Int.mul_ne_zero hq hp1)),
      fun s v h => does_put_r rfl rfl ((h.same 4 rfl).trans p1024) (pair_shape (num_cz _) (num_cz _) (h.dep 10 rfl)) (((Mono.drew _).trans h.mono).ok _ _ b1027.ok4) h1029, trivial⟩
  intro g1032 ts v1032 hts E1032
  simp only [fillL, Nat.reduceAdd, List.setIfInBounds_toArray, List.set_cons_zero, List.set_cons_succ] at hts
  subst hts
  have T1033 : Below w.heap.size w v1032 := (below_toDrew T1007).trans E1032.below
  have l1034 : q1010 < v1006.heap.size := b1014.lt
  have l1035 : q1016 < v1006.heap.size := b1020.lt
  have l1036 : q1023 < v1006.heap.size := b1027.lt
  have f1048 : ((.pair (.cz (rn (p * q1) (q * p1))) (.cz (rd (p * q1) (q * p1)))) : Known).p v1032 (g1032 10) := E1032.facts 10 (by decide)
  obtain ⟨t1049, x1051, A1052, m1053, c1054, x1055, A1056, m1057, c1058, e1059, b1050⟩ := put_info4 (E1032.facts 11 (by decide)) p1024 (pair_shape (num_cz _) (num_cz _) f1048)
  have f1060 : ((.pair (.cz (rn (p * q1) (q * p1))) (.cz (rd (p * q1) (q * p1)))) : Known).p v1032 (.agg #[.bool x1051, .slice A1052 m1053 c1054, .bool x1055, .slice A1056 m1057 c1058]) := pair_at f1048 e1059.symm
  refine then_normal ?_
  refine wp_ret ?_
  exact bodyPost_ret (ret_r rfl p1024 b1050) rfl ⟨_, rfl, f1060, T1033⟩

theorem sub_two {p q p1 q1 : Int} (hq : q ≠ 0) (hq1 : q1 ≠ 0) : rn ((p * (rd (-p1) q1)) + ((rn (-p1) q1) * q)) (q * (rd (-p1) q1)) = rn ((p * q1) - (p1 * q)) (q * q1) ∧ rd ((p * (rd (-p1) q1)) + ((rn (-p1) q1) * q)) (q * (rd (-p1) q1)) = rd ((p * q1) - (p1 * q)) (q * q1) := by
  obtain ⟨h1, h2, _⟩ := r_spec (-p1) hq1
  generalize rn (-p1) q1 = n at *
  generalize rd (-p1) q1 = d at *
  refine r_cross (Int.mul_ne_zero hq (by omega)) (Int.mul_ne_zero hq hq1) ?_
  grind

set_option maxHeartbeats 4000000 in
set_option maxRecDepth 8000 in
theorem r3sub_k {w : World} {x : Value} {p q : Int} {N0 : Nat} (h0 : Rz N0 w x p q) {y : Value} {p1 q1 : Int} {N1 : Nat} (h1 : Rz N1 w y p1 q1) (hN0 : N0 ≤ 100000000) (hN1 : N1 ≤ 100000000) (hq : q ≠ 0) (hq1 : q1 ≠ 0)  : Calls Try.prog 26 #[x, y] w (Ret (.pair (.cz (rn ((p * q1) - (p1 * q)) (q * q1))) (.cz (rd ((p * q1) - (p1 * q)) (q * q1)))) w) := by
  obtain ⟨na0, A0, n0, c0, nb0, B0, m0, d0, e0r, hx0, hy0⟩ := Rz.parts h0
  subst e0r
  have la0 := hx0.len
  have lb0 := hy0.len
  obtain ⟨na1, A1, n1, c1, nb1, B1, m1, d1, e1r, hx1, hy1⟩ := Rz.parts h1
  subst e1r
  have la1 := hx1.len
  have lb1 := hy1.len
  obtain ⟨Ex1, Ex2⟩ := sub_two (p := p) (p1 := p1) hq hq1
  have T0 : Below w.heap.size w w := Below.refl _ _
  go_enter Try.func26, Try.ntmps26
  refine wp_seq ?_
  have HB : w.heap.size ≤ w.heap.size := T0.size
  refine wp_plan_seq [.new 4 (some (29, #[.bool na0, .slice A0 n0 c0, .bool nb0, .slice B0 m0 d0])), .new 4 (some (29, #[.bool na1, .slice A1 n1 c1, .bool nb1, .slice B1 m1 d1])), .new 4 (some (29, #[.bool false, .slice none 0 0, .bool false, .slice none 0 0]))] [] [] w.heap.size (by kernel_rfl) (by kernel_rfl) trivial HB ?_ ?_
  · exact ⟨fun s v h => does_new rfl rfl (x_box_r (h.same 0 rfl)) (okr _ _ _ _ _ _ _ _) rfl (.inr rfl),
      fun s v h => does_new rfl rfl (x_box_r (h.same 1 rfl)) (okr _ _ _ _ _ _ _ _) rfl (.inr rfl),
      fun s v h => does_new rfl rfl x_alloc_r (okr _ _ _ _ _ _ _ _) rfl (.inr rfl), trivial⟩
  intro g1061 ts v1061 hts E1061
  simp only [fillL, Nat.reduceAdd, List.setIfInBounds_toArray, List.set_cons_zero, List.set_cons_succ] at hts
  subst hts
  have T1062 : Below w.heap.size w v1061 := T0.trans E1061.below
  have f1063 := (pair_mono h0 E1061.mono)
  have f1064 := (pair_mono h1 E1061.mono)
  obtain ⟨q1065, p1066, l1067, o1068, b1069⟩ : ∃ q, g1061 0 = .pointer (some ⟨q, 0, none⟩) ∧ w.heap.size ≤ q ∧ OkB v1061 q 4 ∧ Bx v1061 q 29 #[.bool na0, .slice A0 n0 c0, .bool nb0, .slice B0 m0 d0] := E1061.facts 0 (by decide)
  have h1070 : w.heap.size ≤ q1065 := Nat.le_trans HB l1067
  obtain ⟨q1071, p1072, l1073, o1074, b1075⟩ : ∃ q, g1061 1 = .pointer (some ⟨q, 0, none⟩) ∧ w.heap.size ≤ q ∧ OkB v1061 q 4 ∧ Bx v1061 q 29 #[.bool na1, .slice A1 n1 c1, .bool nb1, .slice B1 m1 d1] := E1061.facts 1 (by decide)
  have h1076 : w.heap.size ≤ q1071 := Nat.le_trans HB l1073
  obtain ⟨q1078, p1079, l1080, o1081, b1082⟩ : ∃ q, g1061 2 = .pointer (some ⟨q, 0, none⟩) ∧ w.heap.size ≤ q ∧ OkB v1061 q 4 ∧ Bx v1061 q 29 #[.bool false, .slice none 0 0, .bool false, .slice none 0 0] := E1061.facts 2 (by decide)
  have h1084 : w.heap.size ≤ q1078 := Nat.le_trans HB l1080
  have n1085 : q1065 ≠ q1078 := E1061.apart 0 2 (by decide) (by decide) (by decide) ⟨_, _, _, rfl⟩ ⟨_, _, _, rfl⟩ none _ none _ p1066 p1079
  have n1086 : q1071 ≠ q1078 := E1061.apart 1 2 (by decide) (by decide) (by decide) ⟨_, _, _, rfl⟩ ⟨_, _, _, rfl⟩ none _ none _ p1072 p1079
  refine then_normal ?_
  refine wp_seq ?_
  have HB : w.heap.size ≤ v1061.heap.size := T1062.size
  refine wp_plan_any [.val (.pair (.az N0 p) (.az N0 q)), .val (.pair (.az N1 p1) (.az N1 q1)), .val (.pair (.cz (rn (-p1) q1)) (.cz (rd (-p1) q1))), .val (.pair (.cz (rn ((p * (rd (-p1) q1)) + ((rn (-p1) q1) * q)) (q * (rd (-p1) q1)))) (.cz (rd ((p * (rd (-p1) q1)) + ((rn (-p1) q1) * q)) (q * (rd (-p1) q1))))), .put 4 8] [4] [q1078] w.heap.size (by kernel_rfl) (by kernel_rfl) (by kernel_rfl) ⟨p1079, b1082.lt, (by simp), trivial⟩ HB ?_ ?_
  · exact ⟨fun s v h => does_val rfl rfl (x_load_r ((h.same 2 rfl).trans p1066) ((h.far q1065 b1069.lt (nin1 n1085)).trans b1069)) (pair_mono f1063 ((Mono.drew _).trans h.mono)),
      fun s v h => does_val rfl rfl (x_load_r ((h.same 3 rfl).trans p1072) ((h.far q1071 b1075.lt (nin1 n1086)).trans b1075)) (pair_mono f1064 ((Mono.drew _).trans h.mono)),
      fun s v h => does_call rfl rfl (x_call1 Try.call63) (r3neg_k (h.dep 1 rfl) (by omega) hq1),
      fun s v h => does_call rfl rfl (x_call2 Try.call25) (r3add_k (h.dep 0 rfl) (rz_cc (h.dep 2 rfl) (rn_len hq1 (len_neg la1)) (rd_len hq1 lb1)) (by omega) (by omega) hq (rd_ne hq1)),
      fun s v h => does_put_r rfl rfl ((h.same 4 rfl).trans p1079) (pair_shape (num_cz _) (num_cz _) (h.dep 3 rfl)) (((Mono.drew _).trans h.mono).ok _ _ b1082.ok4) h1084, trivial⟩
  intro g1087 ts v1087 hts E1087
  simp only [fillL, Nat.reduceAdd, List.setIfInBounds_toArray, List.set_cons_zero, List.set_cons_succ] at hts
  subst hts
  have T1088 : Below w.heap.size w v1087 := (below_toDrew T1062).trans E1087.below
  have l1089 : q1065 < v1061.heap.size := b1069.lt
  have l1090 : q1071 < v1061.heap.size := b1075.lt
  have l1091 : q1078 < v1061.heap.size := b1082.lt
  have f1100 : ((.pair (.cz (rn ((p * (rd (-p1) q1)) + ((rn (-p1) q1) * q)) (q * (rd (-p1) q1)))) (.cz (rd ((p * (rd (-p1) q1)) + ((rn (-p1) q1) * q)) (q * (rd (-p1) q1))))) : Known).p v1087 (g1087 3) := E1087.facts 3 (by decide)
  obtain ⟨t1101, x1103, A1104, m1105, c1106, x1107, A1108, m1109, c1110, e1111, b1102⟩ := put_info4 (E1087.facts 4 (by decide)) p1079 (pair_shape (num_cz _) (num_cz _) f1100)
  have f1112 : ((.pair (.cz (rn ((p * (rd (-p1) q1)) + ((rn (-p1) q1) * q)) (q * (rd (-p1) q1)))) (.cz (rd ((p * (rd (-p1) q1)) + ((rn (-p1) q1) * q)) (q * (rd (-p1) q1))))) : Known).p v1087 (.agg #[.bool x1103, .slice A1104 m1105 c1106, .bool x1107, .slice A1108 m1109 c1110]) := pair_at f1100 e1111.symm
  refine then_normal ?_
  refine wp_ret ?_
  exact bodyPost_ret (ret_r rfl p1079 b1102) rfl ⟨_, rfl, (by have := f1112; rw [Ex1, Ex2] at this; exact this), T1088⟩

end Go.Proofs.Ytdmahjbjlppeaaa
