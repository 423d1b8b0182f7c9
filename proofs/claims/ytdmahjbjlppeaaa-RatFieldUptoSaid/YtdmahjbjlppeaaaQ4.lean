
/- Cmp, Floor, Near, Abs, Dist of the reference; the law's small words. -/
import Derived.Test.YtdmahjbjlppeaaaQWhole
import Derived.Test.YtdmahjbjlppeaaaNumQ2
namespace Go.Proofs.Ytdmahjbjlppeaaa
open Go.RowKit

set_option maxHeartbeats 4000000 in
set_option maxRecDepth 8000 in
theorem r3cmp_k {w : World} {x : Value} {p q : Int} {N0 : Nat} (h0 : Rz N0 w x p q) {y : Value} {p1 q1 : Int} {N1 : Nat} (h1 : Rz N1 w y p1 q1) (hN0 : N0 ≤ 100000000) (hN1 : N1 ≤ 100000000) (hq : q ≠ 0) (hq1 : q1 ≠ 0)  : Calls Try.prog 22 #[x, y] w (Ret (.is (.int .i64 (rn ((p * q1) - (p1 * q)) (q * q1)).sign)) w) := by
  obtain ⟨na0, A0, n0, c0, nb0, B0, m0, d0, e0r, hx0, hy0⟩ := Rz.parts h0
  subst e0r
  have la0 := hx0.len
  have lb0 := hy0.len
  obtain ⟨na1, A1, n1, c1, nb1, B1, m1, d1, e1r, hx1, hy1⟩ := Rz.parts h1
  subst e1r
  have la1 := hx1.len
  have lb1 := hy1.len
  have T0 : Below w.heap.size w w := Below.refl _ _
  go_enter Try.func22, Try.ntmps22
  refine wp_seq ?_
  have HB : w.heap.size ≤ w.heap.size := T0.size
  refine wp_plan_seq [.new 4 (some (29, #[.bool na0, .slice A0 n0 c0, .bool nb0, .slice B0 m0 d0])), .new 4 (some (29, #[.bool na1, .slice A1 n1 c1, .bool nb1, .slice B1 m1 d1])), .val (.is (.int .i64 0))] [] [] w.heap.size (by kernel_rfl) (by kernel_rfl) trivial HB ?_ ?_
  · exact ⟨fun s v h => does_new rfl rfl (x_box_r (h.same 0 rfl)) (okr _ _ _ _ _ _ _ _) rfl (.inr rfl),
      fun s v h => does_new rfl rfl (x_box_r (h.same 1 rfl)) (okr _ _ _ _ _ _ _ _) rfl (.inr rfl),
      fun s v h => does_val rfl rfl (x_assign) rfl, trivial⟩
  intro g1 ts v1 hts E1
  simp only [fillL, Nat.reduceAdd, List.setIfInBounds_toArray, List.set_cons_zero, List.set_cons_succ] at hts
  subst hts
  have T2 : Below w.heap.size w v1 := T0.trans E1.below
  have f3 := (pair_mono h0 E1.mono)
  have f4 := (pair_mono h1 E1.mono)
  obtain ⟨q6, p7, l8, o9, b10⟩ : ∃ q, g1 0 = .pointer (some ⟨q, 0, none⟩) ∧ w.heap.size ≤ q ∧ OkB v1 q 4 ∧ Bx v1 q 29 #[.bool na0, .slice A0 n0 c0, .bool nb0, .slice B0 m0 d0] := E1.facts 0 (by decide)
  have h11 : w.heap.size ≤ q6 := Nat.le_trans HB l8
  obtain ⟨q12, p13, l14, o15, b16⟩ : ∃ q, g1 1 = .pointer (some ⟨q, 0, none⟩) ∧ w.heap.size ≤ q ∧ OkB v1 q 4 ∧ Bx v1 q 29 #[.bool na1, .slice A1 n1 c1, .bool nb1, .slice B1 m1 d1] := E1.facts 1 (by decide)
  have h17 : w.heap.size ≤ q12 := Nat.le_trans HB l14
  refine then_normal ?_
  refine wp_seq ?_
  have HB : w.heap.size ≤ v1.heap.size := T2.size
  refine wp_plan_seq [.val (.pair (.az N0 p) (.az N0 q)), .val (.pair (.az N1 p1) (.az N1 q1)), .val (.pair (.cz (rn ((p * q1) - (p1 * q)) (q * q1))) (.cz (rd ((p * q1) - (p1 * q)) (q * q1)))), .val (.cz (rn ((p * q1) - (p1 * q)) (q * q1))), .val (.is (.int .i64 (rn ((p * q1) - (p1 * q)) (q * q1)).sign)), .val (.is (.int .i64 (rn ((p * q1) - (p1 * q)) (q * q1)).sign))] [] [] w.heap.size (by kernel_rfl) (by kernel_rfl) trivial HB ?_ ?_
  · exact ⟨fun s v h => does_val rfl rfl (x_load_r ((h.same 2 rfl).trans p7) ((h.far q6 b10.lt (by simp)).trans b10)) (pair_mono f3 h.mono),
      fun s v h => does_val rfl rfl (x_load_r ((h.same 3 rfl).trans p13) ((h.far q12 b16.lt (by simp)).trans b16)) (pair_mono f4 h.mono),
      fun s v h => does_call rfl rfl (x_call2 Try.call26) (r3sub_k (h.dep 0 rfl) (h.dep 1 rfl) (by omega) (by omega) hq hq1),
      fun s v h => does_field_r rfl rfl (h.dep 2 rfl),
      fun s v h => does_call rfl rfl (x_call1 Try.call14) (r2sign_k ((h.dep 3 rfl).az (N := (max (N0 + N1) (N1 + N0) + 1)) (rn_len (Int.mul_ne_zero hq hq1) (len_sub' (n := (max (N0 + N1) (N1 + N0) + 1)) (len_mul la0 lb1) (len_mul la1 lb0) (by omega) (by omega)))) (by omega)),
      fun s v h => does_val rfl rfl (x_assign) (h.dep 4 rfl), trivial⟩
  intro g19 ts v19 hts E19
  simp only [fillL, Nat.reduceAdd, List.setIfInBounds_toArray, List.set_cons_zero, List.set_cons_succ] at hts
  subst hts
  have T20 : Below w.heap.size w v19 := T2.trans E19.below
  have l21 : q6 < v1.heap.size := b10.lt
  have l22 : q12 < v1.heap.size := b16.lt
  have e32 : g19 5 = (.int .i64 (rn ((p * q1) - (p1 * q)) (q * q1)).sign) := E19.facts 5 (by decide)
  refine then_normal ?_
  refine wp_ret ?_
  exact bodyPost_ret (results_tmp (t := 4) rfl _ _ _) rfl ⟨_, rfl, e32, T20⟩

set_option maxHeartbeats 4000000 in
set_option maxRecDepth 8000 in
theorem r3floor_k {w : World} {x : Value} {p q : Int} {N0 : Nat} (h0 : Rz N0 w x p q) (hN0 : N0 ≤ 100000000) (hq : q ≠ 0)  : Calls Try.prog 36 #[x] w (Ret (.cz (fl p q)) w) := by
  obtain ⟨na0, A0, n0, c0, nb0, B0, m0, d0, e0r, hx0, hy0⟩ := Rz.parts h0
  subst e0r
  have la0 := hx0.len
  have lb0 := hy0.len
  have T0 : Below w.heap.size w w := Below.refl _ _
  go_enter Try.func36, Try.ntmps36
  refine wp_seq ?_
  have HB : w.heap.size ≤ w.heap.size := T0.size
  refine wp_plan_seq [.new 4 (some (29, #[.bool na0, .slice A0 n0 c0, .bool nb0, .slice B0 m0 d0])), .new 2 (some (24, #[.bool false, .slice none 0 0]))] [] [] w.heap.size (by kernel_rfl) (by kernel_rfl) trivial HB ?_ ?_
  · exact ⟨fun s v h => does_new rfl rfl (x_box_r (h.same 0 rfl)) (okr _ _ _ _ _ _ _ _) rfl (.inr rfl),
      fun s v h => does_new rfl rfl x_alloc_z (okz _ _ _ _) rfl (.inr rfl), trivial⟩
  intro g33 ts v33 hts E33
  simp only [fillL, Nat.reduceAdd, List.setIfInBounds_toArray, List.set_cons_zero, List.set_cons_succ] at hts
  subst hts
  have T34 : Below w.heap.size w v33 := T0.trans E33.below
  have f35 := (pair_mono h0 E33.mono)
  obtain ⟨q36, p37, l38, o39, b40⟩ : ∃ q, g33 0 = .pointer (some ⟨q, 0, none⟩) ∧ w.heap.size ≤ q ∧ OkB v33 q 4 ∧ Bx v33 q 29 #[.bool na0, .slice A0 n0 c0, .bool nb0, .slice B0 m0 d0] := E33.facts 0 (by decide)
  have h41 : w.heap.size ≤ q36 := Nat.le_trans HB l38
  obtain ⟨q42, p43, l44, o45, b46⟩ : ∃ q, g33 1 = .pointer (some ⟨q, 0, none⟩) ∧ w.heap.size ≤ q ∧ OkB v33 q 2 ∧ Bx v33 q 24 #[.bool false, .slice none 0 0] := E33.facts 1 (by decide)
  have h48 : w.heap.size ≤ q42 := Nat.le_trans HB l44
  refine then_normal ?_
  refine wp_seq ?_
  have HB : w.heap.size ≤ v33.heap.size := T34.size
  refine wp_plan_seq [.val (.is (.pointer (some ⟨q36, 0, none⟩))), .val (.az N0 p), .val (.is (.pointer (some ⟨q36, 2, none⟩))), .val (.az N0 q), .val (.tup2 (.cz (fl p q)) (.cz (md p q))), .val (.tup2 (.cz (fl p q)) (.cz (md p q))), .val (.cz (fl p q)), .val (.cz (md p q)), .new 2 none, .new 2 none, .put 3 11, .put 4 12] [] [] w.heap.size (by kernel_rfl) (by kernel_rfl) trivial HB ?_ ?_
  · exact ⟨fun s v h => does_val rfl rfl (x_fld_r0 ((h.same 1 rfl).trans p37)) rfl,
      fun s v h => does_val rfl rfl (x_load_r0 (h.dep 0 rfl) ((h.far q36 b40.lt (by simp)).trans b40)) (pair_fst (pair_mono f35 h.mono)),
      fun s v h => does_val rfl rfl (x_fld_r1 ((h.same 1 rfl).trans p37)) rfl,
      fun s v h => does_val rfl rfl (x_load_r1 (h.dep 2 rfl) ((h.far q36 b40.lt (by simp)).trans b40)) (pair_snd (pair_mono f35 h.mono)),
      fun s v h => does_call rfl rfl (x_call2 Try.call68) (r2floor_k (h.dep 1 rfl) (h.dep 3 rfl) (by omega) (by omega) hq),
      fun s v h => does_val rfl rfl (x_move) (h.dep 4 rfl),
      fun s v h => by obtain ⟨r0, r1, e, f0, f1⟩ := tup2_at (h.dep 5 rfl); exact does_val rfl rfl (x_ext e rfl) f0,
      fun s v h => by obtain ⟨r0, r1, e, f0, f1⟩ := tup2_at (h.dep 5 rfl); exact does_val rfl rfl (x_ext e rfl) f1,
      fun s v h => does_new rfl rfl x_alloc_z (okz _ _ _ _) rfl (.inl rfl),
      fun s v h => does_new rfl rfl x_alloc_z (okz _ _ _ _) rfl (.inl rfl),
      fun s v h => by obtain ⟨q, e1, e2, e3⟩ := new_at (h.dep 8 rfl); exact does_put_z rfl rfl e1 (h.dep 6 rfl).shape e3 (Nat.le_trans HB e2),
      fun s v h => by obtain ⟨q, e1, e2, e3⟩ := new_at (h.dep 9 rfl); exact does_put_z rfl rfl e1 (h.dep 7 rfl).shape e3 (Nat.le_trans HB e2), trivial⟩
  intro g50 ts v50 hts E50
  simp only [fillL, Nat.reduceAdd, List.setIfInBounds_toArray, List.set_cons_zero, List.set_cons_succ] at hts
  subst hts
  have T51 : Below w.heap.size w v50 := T34.trans E50.below
  have l52 : q36 < v33.heap.size := b40.lt
  have l53 : q42 < v33.heap.size := b46.lt
  have b54 : Bx v50 q36 29 #[.bool na0, .slice A0 n0 c0, .bool nb0, .slice B0 m0 d0] := (E50.far q36 b40.lt (by simp)).trans b40
  have b55 : Bx v50 q42 24 #[.bool false, .slice none 0 0] := (E50.far q42 b46.lt (by simp)).trans b46
  have f60 : Cz v50 (g50 6) (fl p q) := E50.facts 6 (by decide)
  have f61 : Cz v50 (g50 7) (md p q) := E50.facts 7 (by decide)
  obtain ⟨q62, p63, l64, o65⟩ : ∃ q, g50 8 = .pointer (some ⟨q, 0, none⟩) ∧ v33.heap.size ≤ q ∧ OkB v50 q 2 := E50.facts 8 (by decide)
  have h66 : w.heap.size ≤ q62 := Nat.le_trans HB l64
  have n68 : q42 ≠ q62 := by omega
  obtain ⟨q69, p70, l71, o72⟩ : ∃ q, g50 9 = .pointer (some ⟨q, 0, none⟩) ∧ v33.heap.size ≤ q ∧ OkB v50 q 2 := E50.facts 9 (by decide)
  have h73 : w.heap.size ≤ q69 := Nat.le_trans HB l71
  obtain ⟨t77, x79, A80, m81, c82, e83, b78⟩ := put_info (E50.facts 10 (by decide)) p63 f60.shape
  have f84 : Cz v50 (.agg #[.bool x79, .slice A80 m81 c82]) (fl p q) := f60.at e83.symm
  obtain ⟨t85, x87, A88, m89, c90, e91, b86⟩ := put_info (E50.facts 11 (by decide)) p70 f61.shape
  refine then_normal ?_
  refine wp_seq ?_
  have HB : w.heap.size ≤ v50.heap.size := T51.size
  refine wp_plan_seq [.val (.cz (fl p q)), .put 2 13] [2] [q42] w.heap.size (by kernel_rfl) (by kernel_rfl) ⟨p43, b55.lt, (by simp), trivial⟩ HB ?_ ?_
  · exact ⟨fun s v h => does_val rfl rfl (x_load_z ((h.same 3 rfl).trans p63) ((h.far q62 b78.lt (nin1 n68.symm)).trans b78)) (f84.mono h.mono),
      fun s v h => does_put_z rfl rfl ((h.same 2 rfl).trans p43) (h.dep 0 rfl).shape (h.mono.ok _ _ b55.ok2) h48, trivial⟩
  intro g93 ts v93 hts E93
  simp only [fillL, List.setIfInBounds_toArray, List.set_cons_zero, List.set_cons_succ] at hts
  subst hts
  have T94 : Below w.heap.size w v93 := T51.trans E93.below
  have l95 : q36 < v50.heap.size := b54.lt
  have l96 : q42 < v50.heap.size := b55.lt
  have l97 : q62 < v50.heap.size := b78.lt
  have l98 : q69 < v50.heap.size := b86.lt
  have f110 : Cz v93 (g93 0) (fl p q) := E93.facts 0 (by decide)
  obtain ⟨t111, x113, A114, m115, c116, e117, b112⟩ := put_info (E93.facts 1 (by decide)) p43 f110.shape
  have f118 : Cz v93 (.agg #[.bool x113, .slice A114 m115 c116]) (fl p q) := f110.at e117.symm
  refine then_normal ?_
  refine wp_ret ?_
  exact bodyPost_ret (ret_c rfl p43 b112) rfl ⟨_, rfl, f118, T94⟩

set_option maxHeartbeats 4000000 in
set_option maxRecDepth 8000 in
theorem r3near_k {w : World} {x : Value} {p q : Int} {N0 : Nat} (h0 : Rz N0 w x p q) (hN0 : N0 ≤ 50000000) (hpos : 0 < q)  : Calls Try.prog 37 #[x] w (Ret (.cz (fl (p + p + q) (q + q))) w) := by
  obtain ⟨na0, A0, n0, c0, nb0, B0, m0, d0, e0r, hx0, hy0⟩ := Rz.parts h0
  subst e0r
  have la0 := hx0.len
  have lb0 := hy0.len
  have T0 : Below w.heap.size w w := Below.refl _ _
  go_enter Try.func37, Try.ntmps37
  refine wp_seq ?_
  have HB : w.heap.size ≤ w.heap.size := T0.size
  refine wp_plan_seq [.new 4 (some (29, #[.bool na0, .slice A0 n0 c0, .bool nb0, .slice B0 m0 d0])), .new 2 (some (24, #[.bool false, .slice none 0 0]))] [] [] w.heap.size (by kernel_rfl) (by kernel_rfl) trivial HB ?_ ?_
  · exact ⟨fun s v h => does_new rfl rfl (x_box_r (h.same 0 rfl)) (okr _ _ _ _ _ _ _ _) rfl (.inr rfl),
      fun s v h => does_new rfl rfl x_alloc_z (okz _ _ _ _) rfl (.inr rfl), trivial⟩
  intro g119 ts v119 hts E119
  simp only [fillL, Nat.reduceAdd, List.setIfInBounds_toArray, List.set_cons_zero, List.set_cons_succ] at hts
  subst hts
  have T120 : Below w.heap.size w v119 := T0.trans E119.below
  have f121 := (pair_mono h0 E119.mono)
  obtain ⟨q122, p123, l124, o125, b126⟩ : ∃ q, g119 0 = .pointer (some ⟨q, 0, none⟩) ∧ w.heap.size ≤ q ∧ OkB v119 q 4 ∧ Bx v119 q 29 #[.bool na0, .slice A0 n0 c0, .bool nb0, .slice B0 m0 d0] := E119.facts 0 (by decide)
  have h127 : w.heap.size ≤ q122 := Nat.le_trans HB l124
  obtain ⟨q128, p129, l130, o131, b132⟩ : ∃ q, g119 1 = .pointer (some ⟨q, 0, none⟩) ∧ w.heap.size ≤ q ∧ OkB v119 q 2 ∧ Bx v119 q 24 #[.bool false, .slice none 0 0] := E119.facts 1 (by decide)
  have h134 : w.heap.size ≤ q128 := Nat.le_trans HB l130
  have n135 : q122 ≠ q128 := E119.apart 0 1 (by decide) (by decide) (by decide) ⟨_, _, _, rfl⟩ ⟨_, _, _, rfl⟩ none _ none _ p123 p129
  refine then_normal ?_
  refine wp_seq ?_
  have HB : w.heap.size ≤ v119.heap.size := T120.size
  refine wp_plan_any [.val (.pair (.az N0 p) (.az N0 q)), .val (.pair (.cz 1) (.cz 2)), .val (.pair (.cz (rn ((p * 2) + (1 * q)) (q * 2))) (.cz (rd ((p * 2) + (1 * q)) (q * 2)))), .val (.cz (fl (rn ((p * 2) + (1 * q)) (q * 2)) (rd ((p * 2) + (1 * q)) (q * 2)))), .put 2 6] [2] [q128] w.heap.size (by kernel_rfl) (by kernel_rfl) (by kernel_rfl) ⟨p129, b132.lt, (by simp), trivial⟩ HB ?_ ?_
  · exact ⟨fun s v h => does_val rfl rfl (x_load_r ((h.same 1 rfl).trans p123) ((h.far q122 b126.lt (nin1 n135)).trans b126)) (pair_mono f121 ((Mono.drew _).trans h.mono)),
      fun s v h => does_call rfl rfl (x_call0 Try.call69) (r3half_k),
      fun s v h => does_call rfl rfl (x_call2 Try.call25) (r3add_k (h.dep 0 rfl) (rz_cc (N := 1) (h.dep 1 rfl) (show (digs (Int.natAbs 1)).length ≤ 1 from digs_len_le (by decide)) (show (digs (Int.natAbs 2)).length ≤ 1 from digs_len_le (by decide))) (by omega) (by omega) (by omega) (by decide)),
      fun s v h => does_call rfl rfl (x_call1 Try.call36) (r3floor_k (rz_cc (N := (max (max (N0 + 1) (1 + N0) + 1) (N0 + 1))) (h.dep 2 rfl) (Nat.le_trans (rn_len (Int.mul_ne_zero (by omega) (by decide)) (len_add' (n := (max (N0 + 1) (1 + N0) + 1)) (len_mul la0 (show (digs (Int.natAbs 2)).length ≤ 1 from digs_len_le (by decide))) (len_mul (show (digs (Int.natAbs 1)).length ≤ 1 from digs_len_le (by decide)) lb0) (by omega) (by omega))) (by omega)) (Nat.le_trans (rd_len (Int.mul_ne_zero (by omega) (by decide)) (len_mul lb0 (show (digs (Int.natAbs 2)).length ≤ 1 from digs_len_le (by decide)))) (by omega))) (by omega) (rd_ne (Int.mul_ne_zero (by omega) (by decide)))),
      fun s v h => does_put_z rfl rfl ((h.same 2 rfl).trans p129) (h.dep 3 rfl).shape (((Mono.drew _).trans h.mono).ok _ _ b132.ok2) h134, trivial⟩
  intro g136 ts v136 hts E136
  simp only [fillL, Nat.reduceAdd, List.setIfInBounds_toArray, List.set_cons_zero, List.set_cons_succ] at hts
  subst hts
  have T137 : Below w.heap.size w v136 := (below_toDrew T120).trans E136.below
  have l138 : q122 < v119.heap.size := b126.lt
  have l139 : q128 < v119.heap.size := b132.lt
  have f146 : Cz v136 (g136 3) (fl (rn ((p * 2) + (1 * q)) (q * 2)) (rd ((p * 2) + (1 * q)) (q * 2))) := E136.facts 3 (by decide)
  obtain ⟨t147, x149, A150, m151, c152, e153, b148⟩ := put_info (E136.facts 4 (by decide)) p129 f146.shape
  have f154 : Cz v136 (.agg #[.bool x149, .slice A150 m151 c152]) (fl (rn ((p * 2) + (1 * q)) (q * 2)) (rd ((p * 2) + (1 * q)) (q * 2))) := f146.at e153.symm
  refine then_normal ?_
  refine wp_ret ?_
  exact bodyPost_ret (ret_c rfl p129 b148) rfl ⟨_, rfl, (by have := f154; rw [near_ratio hpos] at this; exact this), T137⟩

set_option maxHeartbeats 4000000 in
set_option maxRecDepth 8000 in
theorem r3abs_a {w : World} {x : Value} {p q : Int} {N0 : Nat} (h0 : Rz N0 w x p q) (hN0 : N0 ≤ 100000000) (hq : q ≠ 0) (d : decide (p.sign < 0) = true)  : Calls Try.prog 70 #[x] w (Ret (.pair (.cz (rn (p.natAbs : Int) q)) (.cz (rd (p.natAbs : Int) q))) w) := by
  obtain ⟨na0, A0, n0, c0, nb0, B0, m0, d0, e0r, hx0, hy0⟩ := Rz.parts h0
  subst e0r
  have la0 := hx0.len
  have lb0 := hy0.len
  obtain ⟨Xa, Xb⟩ := abs_two (q := q) d
  have T0 : Below w.heap.size w w := Below.refl _ _
  go_enter Try.func70, Try.ntmps70
  refine wp_seq ?_
  have HB : w.heap.size ≤ w.heap.size := T0.size
  refine wp_plan_seq [.new 4 (some (29, #[.bool na0, .slice A0 n0 c0, .bool nb0, .slice B0 m0 d0])), .new 4 (some (29, #[.bool false, .slice none 0 0, .bool false, .slice none 0 0]))] [] [] w.heap.size (by kernel_rfl) (by kernel_rfl) trivial HB ?_ ?_
  · exact ⟨fun s v h => does_new rfl rfl (x_box_r (h.same 0 rfl)) (okr _ _ _ _ _ _ _ _) rfl (.inr rfl),
      fun s v h => does_new rfl rfl x_alloc_r (okr _ _ _ _ _ _ _ _) rfl (.inr rfl), trivial⟩
  intro g155 ts v155 hts E155
  simp only [fillL, Nat.reduceAdd, List.setIfInBounds_toArray, List.set_cons_zero, List.set_cons_succ] at hts
  subst hts
  have T156 : Below w.heap.size w v155 := T0.trans E155.below
  have f157 := (pair_mono h0 E155.mono)
  obtain ⟨q158, p159, l160, o161, b162⟩ : ∃ q, g155 0 = .pointer (some ⟨q, 0, none⟩) ∧ w.heap.size ≤ q ∧ OkB v155 q 4 ∧ Bx v155 q 29 #[.bool na0, .slice A0 n0 c0, .bool nb0, .slice B0 m0 d0] := E155.facts 0 (by decide)
  have h163 : w.heap.size ≤ q158 := Nat.le_trans HB l160
  obtain ⟨q164, p165, l166, o167, b168⟩ : ∃ q, g155 1 = .pointer (some ⟨q, 0, none⟩) ∧ w.heap.size ≤ q ∧ OkB v155 q 4 ∧ Bx v155 q 29 #[.bool false, .slice none 0 0, .bool false, .slice none 0 0] := E155.facts 1 (by decide)
  have h170 : w.heap.size ≤ q164 := Nat.le_trans HB l166
  have n171 : q158 ≠ q164 := E155.apart 0 1 (by decide) (by decide) (by decide) ⟨_, _, _, rfl⟩ ⟨_, _, _, rfl⟩ none _ none _ p159 p165
  refine then_normal ?_
  refine wp_seq ?_
  refine wp_seq ?_
  have HB : w.heap.size ≤ v155.heap.size := T156.size
  refine wp_plan_seq [.val (.is (.pointer (some ⟨q158, 0, none⟩))), .val (.az N0 p), .val (.is (.int .i64 p.sign)), .val (.is (.bool true))] [] [] w.heap.size (by kernel_rfl) (by kernel_rfl) trivial HB ?_ ?_
  · exact ⟨fun s v h => does_val rfl rfl (x_fld_r0 ((h.same 1 rfl).trans p159)) rfl,
      fun s v h => does_val rfl rfl (x_load_r0 (h.dep 0 rfl) ((h.far q158 b162.lt (by simp)).trans b162)) (pair_fst (pair_mono f157 h.mono)),
      fun s v h => does_call rfl rfl (x_call1 Try.call14) (r2sign_k (h.dep 1 rfl) (by omega)),
      fun s v h => does_val rfl rfl (x_lss (h.dep 2 rfl) rfl) (congrArg Value.bool d), trivial⟩
  intro g172 ts v172 hts E172
  simp only [fillL, Nat.reduceAdd, List.setIfInBounds_toArray, List.set_cons_zero, List.set_cons_succ] at hts
  subst hts
  have T173 : Below w.heap.size w v172 := T156.trans E172.below
  have l174 : q158 < v155.heap.size := b162.lt
  have l175 : q164 < v155.heap.size := b168.lt
  have b176 : Bx v172 q158 29 #[.bool na0, .slice A0 n0 c0, .bool nb0, .slice B0 m0 d0] := (E172.far q158 b162.lt (by simp)).trans b162
  have b177 : Bx v172 q164 29 #[.bool false, .slice none 0 0, .bool false, .slice none 0 0] := (E172.far q164 b168.lt (by simp)).trans b168
  have f178 := (pair_mono f157 E172.mono)
  have e182 : g172 3 = (.bool true) := E172.facts 3 (by decide)
  refine then_normal ?_
  refine wp_cond_true e182 ?_
  refine wp_seq ?_
  have HB : w.heap.size ≤ v172.heap.size := T173.size
  refine wp_plan_seq [.val (.pair (.az N0 p) (.az N0 q)), .val (.pair (.cz (rn (-p) q)) (.cz (rd (-p) q))), .put 2 8] [2] [q164] w.heap.size (by kernel_rfl) (by kernel_rfl) ⟨p165, b177.lt, (by simp), trivial⟩ HB ?_ ?_
  · exact ⟨fun s v h => does_val rfl rfl (x_load_r ((h.same 1 rfl).trans p159) ((h.far q158 b176.lt (nin1 n171)).trans b176)) (pair_mono f178 h.mono),
      fun s v h => does_call rfl rfl (x_call1 Try.call63) (r3neg_k (h.dep 0 rfl) (by omega) hq),
      fun s v h => does_put_r rfl rfl ((h.same 2 rfl).trans p165) (pair_shape (num_cz _) (num_cz _) (h.dep 1 rfl)) (h.mono.ok _ _ b177.ok4) h170, trivial⟩
  intro g183 ts v183 hts E183
  simp only [fillL, Nat.reduceAdd, List.setIfInBounds_toArray, List.set_cons_zero, List.set_cons_succ] at hts
  subst hts
  have T184 : Below w.heap.size w v183 := T173.trans E183.below
  have l185 : q158 < v172.heap.size := b176.lt
  have l186 : q164 < v172.heap.size := b177.lt
  have f192 : ((.pair (.cz (rn (-p) q)) (.cz (rd (-p) q))) : Known).p v183 (g183 1) := E183.facts 1 (by decide)
  obtain ⟨t193, x195, A196, m197, c198, x199, A200, m201, c202, e203, b194⟩ := put_info4 (E183.facts 2 (by decide)) p165 (pair_shape (num_cz _) (num_cz _) f192)
  have f204 : ((.pair (.cz (rn (-p) q)) (.cz (rd (-p) q))) : Known).p v183 (.agg #[.bool x195, .slice A196 m197 c198, .bool x199, .slice A200 m201 c202]) := pair_at f192 e203.symm
  refine then_normal ?_
  refine wp_ret ?_
  exact bodyPost_ret (ret_r rfl p165 b194) rfl ⟨_, rfl, (by have := f204; rw [Xa, Xb] at this; exact this), T184⟩

set_option maxHeartbeats 4000000 in
set_option maxRecDepth 8000 in
theorem r3abs_b {w : World} {x : Value} {p q : Int} {N0 : Nat} (h0 : Rz N0 w x p q) (hN0 : N0 ≤ 100000000) (hq : q ≠ 0) (d : decide (p.sign < 0) = false)  : Calls Try.prog 70 #[x] w (Ret (.pair (.cz (rn (p.natAbs : Int) q)) (.cz (rd (p.natAbs : Int) q))) w) := by
  obtain ⟨na0, A0, n0, c0, nb0, B0, m0, d0, e0r, hx0, hy0⟩ := Rz.parts h0
  subst e0r
  have la0 := hx0.len
  have lb0 := hy0.len
  obtain ⟨Xa, Xb⟩ := abs_one (q := q) d
  have T0 : Below w.heap.size w w := Below.refl _ _
  go_enter Try.func70, Try.ntmps70
  refine wp_seq ?_
  have HB : w.heap.size ≤ w.heap.size := T0.size
  refine wp_plan_seq [.new 4 (some (29, #[.bool na0, .slice A0 n0 c0, .bool nb0, .slice B0 m0 d0])), .new 4 (some (29, #[.bool false, .slice none 0 0, .bool false, .slice none 0 0]))] [] [] w.heap.size (by kernel_rfl) (by kernel_rfl) trivial HB ?_ ?_
  · exact ⟨fun s v h => does_new rfl rfl (x_box_r (h.same 0 rfl)) (okr _ _ _ _ _ _ _ _) rfl (.inr rfl),
      fun s v h => does_new rfl rfl x_alloc_r (okr _ _ _ _ _ _ _ _) rfl (.inr rfl), trivial⟩
  intro g205 ts v205 hts E205
  simp only [fillL, Nat.reduceAdd, List.setIfInBounds_toArray, List.set_cons_zero, List.set_cons_succ] at hts
  subst hts
  have T206 : Below w.heap.size w v205 := T0.trans E205.below
  have f207 := (pair_mono h0 E205.mono)
  obtain ⟨q208, p209, l210, o211, b212⟩ : ∃ q, g205 0 = .pointer (some ⟨q, 0, none⟩) ∧ w.heap.size ≤ q ∧ OkB v205 q 4 ∧ Bx v205 q 29 #[.bool na0, .slice A0 n0 c0, .bool nb0, .slice B0 m0 d0] := E205.facts 0 (by decide)
  have h213 : w.heap.size ≤ q208 := Nat.le_trans HB l210
  obtain ⟨q214, p215, l216, o217, b218⟩ : ∃ q, g205 1 = .pointer (some ⟨q, 0, none⟩) ∧ w.heap.size ≤ q ∧ OkB v205 q 4 ∧ Bx v205 q 29 #[.bool false, .slice none 0 0, .bool false, .slice none 0 0] := E205.facts 1 (by decide)
  have h220 : w.heap.size ≤ q214 := Nat.le_trans HB l216
  have n221 : q208 ≠ q214 := E205.apart 0 1 (by decide) (by decide) (by decide) ⟨_, _, _, rfl⟩ ⟨_, _, _, rfl⟩ none _ none _ p209 p215
  refine then_normal ?_
  refine wp_seq ?_
  refine wp_seq ?_
  have HB : w.heap.size ≤ v205.heap.size := T206.size
  refine wp_plan_seq [.val (.is (.pointer (some ⟨q208, 0, none⟩))), .val (.az N0 p), .val (.is (.int .i64 p.sign)), .val (.is (.bool false))] [] [] w.heap.size (by kernel_rfl) (by kernel_rfl) trivial HB ?_ ?_
  · exact ⟨fun s v h => does_val rfl rfl (x_fld_r0 ((h.same 1 rfl).trans p209)) rfl,
      fun s v h => does_val rfl rfl (x_load_r0 (h.dep 0 rfl) ((h.far q208 b212.lt (by simp)).trans b212)) (pair_fst (pair_mono f207 h.mono)),
      fun s v h => does_call rfl rfl (x_call1 Try.call14) (r2sign_k (h.dep 1 rfl) (by omega)),
      fun s v h => does_val rfl rfl (x_lss (h.dep 2 rfl) rfl) (congrArg Value.bool d), trivial⟩
  intro g222 ts v222 hts E222
  simp only [fillL, Nat.reduceAdd, List.setIfInBounds_toArray, List.set_cons_zero, List.set_cons_succ] at hts
  subst hts
  have T223 : Below w.heap.size w v222 := T206.trans E222.below
  have l224 : q208 < v205.heap.size := b212.lt
  have l225 : q214 < v205.heap.size := b218.lt
  have b226 : Bx v222 q208 29 #[.bool na0, .slice A0 n0 c0, .bool nb0, .slice B0 m0 d0] := (E222.far q208 b212.lt (by simp)).trans b212
  have b227 : Bx v222 q214 29 #[.bool false, .slice none 0 0, .bool false, .slice none 0 0] := (E222.far q214 b218.lt (by simp)).trans b218
  have f228 := (pair_mono f207 E222.mono)
  have e232 : g222 3 = (.bool false) := E222.facts 3 (by decide)
  refine then_normal ?_
  refine wp_cond_false e232 ?_
  refine wp_skip ?_
  refine then_normal ?_
  refine wp_seq ?_
  have HB : w.heap.size ≤ v222.heap.size := T223.size
  refine wp_plan_seq [.val (.is (.pointer (some ⟨q208, 0, none⟩))), .val (.az N0 p), .val (.is (.pointer (some ⟨q208, 2, none⟩))), .val (.az N0 q), .val (.pair (.cz (rn p q)) (.cz (rd p q))), .put 2 13] [2] [q214] w.heap.size (by kernel_rfl) (by kernel_rfl) ⟨p215, b227.lt, (by simp), trivial⟩ HB ?_ ?_
  · exact ⟨fun s v h => does_val rfl rfl (x_fld_r0 ((h.same 1 rfl).trans p209)) rfl,
      fun s v h => does_val rfl rfl (x_load_r0 (h.dep 0 rfl) ((h.far q208 b226.lt (nin1 n221)).trans b226)) (pair_fst (pair_mono f228 h.mono)),
      fun s v h => does_val rfl rfl (x_fld_r1 ((h.same 1 rfl).trans p209)) rfl,
      fun s v h => does_val rfl rfl (x_load_r1 (h.dep 2 rfl) ((h.far q208 b226.lt (nin1 n221)).trans b226)) (pair_snd (pair_mono f228 h.mono)),
      fun s v h => does_call rfl rfl (x_call2 Try.call17) (r3make_k (h.dep 1 rfl) (h.dep 3 rfl) (by omega) (by omega) hq),
      fun s v h => does_put_r rfl rfl ((h.same 2 rfl).trans p215) (pair_shape (num_cz _) (num_cz _) (h.dep 4 rfl)) (h.mono.ok _ _ b227.ok4) h220, trivial⟩
  intro g233 ts v233 hts E233
  simp only [fillL, Nat.reduceAdd, List.setIfInBounds_toArray, List.set_cons_zero, List.set_cons_succ] at hts
  subst hts
  have T234 : Below w.heap.size w v233 := T223.trans E233.below
  have l235 : q208 < v222.heap.size := b226.lt
  have l236 : q214 < v222.heap.size := b227.lt
  have f243 : ((.pair (.cz (rn p q)) (.cz (rd p q))) : Known).p v233 (g233 4) := E233.facts 4 (by decide)
  obtain ⟨t244, x246, A247, m248, c249, x250, A251, m252, c253, e254, b245⟩ := put_info4 (E233.facts 5 (by decide)) p215 (pair_shape (num_cz _) (num_cz _) f243)
  have f255 : ((.pair (.cz (rn p q)) (.cz (rd p q))) : Known).p v233 (.agg #[.bool x246, .slice A247 m248 c249, .bool x250, .slice A251 m252 c253]) := pair_at f243 e254.symm
  refine then_normal ?_
  refine wp_ret ?_
  exact bodyPost_ret (ret_r rfl p215 b245) rfl ⟨_, rfl, (by have := f255; rw [Xa, Xb] at this; exact this), T234⟩

theorem r3abs_k {w : World} {x : Value} {p q : Int} {N0 : Nat} (h0 : Rz N0 w x p q) (hN0 : N0 ≤ 100000000) (hq : q ≠ 0) : Calls Try.prog 70 #[x] w (Ret (.pair (.cz (rn (p.natAbs : Int) q)) (.cz (rd (p.natAbs : Int) q))) w) := by
  cases d : decide (p.sign < 0) with
  | true => exact r3abs_a h0 hN0 hq d
  | false => exact r3abs_b h0 hN0 hq d
theorem near_len {p q : Int} {N M K : Nat} (hp : (digs p.natAbs).length ≤ N) (hq : (digs q.natAbs).length ≤ M) (h1 : N + 2 ≤ K) (h2 : M + 1 ≤ K) : (digs (fl (p + p + q) (q + q)).natAbs).length ≤ K + 1 :=
  fl_len (len_add' (len_add' (n := N + 1) hp hp (by omega) (by omega)) hq (by omega) h2)

set_option maxHeartbeats 4000000 in
set_option maxRecDepth 8000 in
theorem r3dist_k {w : World} {x : Value} {p q : Int} {N0 : Nat} (h0 : Rz N0 w x p q) (hN0 : N0 ≤ 10000000) (hpos : 0 < q)  : Calls Try.prog 38 #[x] w (Ret (.pair (.cz ((rn ((p * 1) - ((fl (p + p + q) (q + q)) * q)) (q * 1)).natAbs : Int)) (.cz (rd ((p * 1) - ((fl (p + p + q) (q + q)) * q)) (q * 1)))) w) := by
  obtain ⟨na0, A0, n0, c0, nb0, B0, m0, d0, e0r, hx0, hy0⟩ := Rz.parts h0
  subst e0r
  have la0 := hx0.len
  have lb0 := hy0.len
  have hq0 : q ≠ 0 := by omega
  have lnr : (digs (fl (p + p + q) (q + q)).natAbs).length ≤ N0 + 3 := near_len la0 lb0 (by omega) (by omega)
  obtain ⟨Xa, Xb⟩ := abs_ratio (P := ((p * 1) - ((fl (p + p + q) (q + q)) * q))) (Q := q * 1) (by omega)
  have T0 : Below w.heap.size w w := Below.refl _ _
  go_enter Try.func38, Try.ntmps38
  refine wp_seq ?_
  have HB : w.heap.size ≤ w.heap.size := T0.size
  refine wp_plan_seq [.new 4 (some (29, #[.bool na0, .slice A0 n0 c0, .bool nb0, .slice B0 m0 d0])), .new 4 (some (29, #[.bool false, .slice none 0 0, .bool false, .slice none 0 0]))] [] [] w.heap.size (by kernel_rfl) (by kernel_rfl) trivial HB ?_ ?_
  · exact ⟨fun s v h => does_new rfl rfl (x_box_r (h.same 0 rfl)) (okr _ _ _ _ _ _ _ _) rfl (.inr rfl),
      fun s v h => does_new rfl rfl x_alloc_r (okr _ _ _ _ _ _ _ _) rfl (.inr rfl), trivial⟩
  intro g256 ts v256 hts E256
  simp only [fillL, Nat.reduceAdd, List.setIfInBounds_toArray, List.set_cons_zero, List.set_cons_succ] at hts
  subst hts
  have T257 : Below w.heap.size w v256 := T0.trans E256.below
  have f258 := (pair_mono h0 E256.mono)
  obtain ⟨q259, p260, l261, o262, b263⟩ : ∃ q, g256 0 = .pointer (some ⟨q, 0, none⟩) ∧ w.heap.size ≤ q ∧ OkB v256 q 4 ∧ Bx v256 q 29 #[.bool na0, .slice A0 n0 c0, .bool nb0, .slice B0 m0 d0] := E256.facts 0 (by decide)
  have h264 : w.heap.size ≤ q259 := Nat.le_trans HB l261
  obtain ⟨q265, p266, l267, o268, b269⟩ : ∃ q, g256 1 = .pointer (some ⟨q, 0, none⟩) ∧ w.heap.size ≤ q ∧ OkB v256 q 4 ∧ Bx v256 q 29 #[.bool false, .slice none 0 0, .bool false, .slice none 0 0] := E256.facts 1 (by decide)
  have h271 : w.heap.size ≤ q265 := Nat.le_trans HB l267
  have n272 : q259 ≠ q265 := E256.apart 0 1 (by decide) (by decide) (by decide) ⟨_, _, _, rfl⟩ ⟨_, _, _, rfl⟩ none _ none _ p260 p266
  refine then_normal ?_
  refine wp_seq ?_
  have HB : w.heap.size ≤ v256.heap.size := T257.size
  refine wp_plan_any [.val (.pair (.az N0 p) (.az N0 q)), .val (.pair (.az N0 p) (.az N0 q)), .val (.cz (fl (p + p + q) (q + q))), .val (.pair (.cz (fl (p + p + q) (q + q))) (.cz 1)), .val (.pair (.cz (rn ((p * 1) - ((fl (p + p + q) (q + q)) * q)) (q * 1))) (.cz (rd ((p * 1) - ((fl (p + p + q) (q + q)) * q)) (q * 1)))), .val (.pair (.cz (rn ((rn ((p * 1) - ((fl (p + p + q) (q + q)) * q)) (q * 1)).natAbs : Int) (rd ((p * 1) - ((fl (p + p + q) (q + q)) * q)) (q * 1)))) (.cz (rd ((rn ((p * 1) - ((fl (p + p + q) (q + q)) * q)) (q * 1)).natAbs : Int) (rd ((p * 1) - ((fl (p + p + q) (q + q)) * q)) (q * 1))))), .put 2 8] [2] [q265] w.heap.size (by kernel_rfl) (by kernel_rfl) (by kernel_rfl) ⟨p266, b269.lt, (by simp), trivial⟩ HB ?_ ?_
  · exact ⟨fun s v h => does_val rfl rfl (x_load_r ((h.same 1 rfl).trans p260) ((h.far q259 b263.lt (nin1 n272)).trans b263)) (pair_mono f258 ((Mono.drew _).trans h.mono)),
      fun s v h => does_val rfl rfl (x_load_r ((h.same 1 rfl).trans p260) ((h.far q259 b263.lt (nin1 n272)).trans b263)) (pair_mono f258 ((Mono.drew _).trans h.mono)),
      fun s v h => does_call rfl rfl (x_call1 Try.call37) (r3near_k (h.dep 1 rfl) (by omega) hpos),
      fun s v h => does_call rfl rfl (x_call1 Try.call19) (r3of_k ((h.dep 2 rfl).az (N := (N0 + 3)) lnr) (by omega)),
      fun s v h => does_call rfl rfl (x_call2 Try.call26) (r3sub_k (h.dep 0 rfl) (rz_cc (N := (max (N0 + 3) 1)) (h.dep 3 rfl) (Nat.le_trans lnr (by omega)) (Nat.le_trans (show (digs (Int.natAbs 1)).length ≤ 1 from digs_len_le (by decide)) (by omega))) (by omega) (by omega) hq0 (by decide)),
      fun s v h => does_call rfl rfl (x_call1 Try.call70) (r3abs_k (rz_cc (N := (max (max (N0 + 1) ((N0 + 3) + N0) + 1) (N0 + 1))) (h.dep 4 rfl) (Nat.le_trans (rn_len (Int.mul_ne_zero hq0 (by decide)) (len_sub' (n := (max (N0 + 1) ((N0 + 3) + N0) + 1)) (len_mul la0 (show (digs (Int.natAbs 1)).length ≤ 1 from digs_len_le (by decide))) (len_mul lnr lb0) (by omega) (by omega))) (by omega)) (Nat.le_trans (rd_len (Int.mul_ne_zero hq0 (by decide)) (len_mul lb0 (show (digs (Int.natAbs 1)).length ≤ 1 from digs_len_le (by decide)))) (by omega))) (by omega) (rd_ne (Int.mul_ne_zero hq0 (by decide)))),
      fun s v h => does_put_r rfl rfl ((h.same 2 rfl).trans p266) (pair_shape (num_cz _) (num_cz _) (h.dep 5 rfl)) (((Mono.drew _).trans h.mono).ok _ _ b269.ok4) h271, trivial⟩
  intro g273 ts v273 hts E273
  simp only [fillL, Nat.reduceAdd, List.setIfInBounds_toArray, List.set_cons_zero, List.set_cons_succ] at hts
  subst hts
  have T274 : Below w.heap.size w v273 := (below_toDrew T257).trans E273.below
  have l275 : q259 < v256.heap.size := b263.lt
  have l276 : q265 < v256.heap.size := b269.lt
  have f285 : ((.pair (.cz (rn ((rn ((p * 1) - ((fl (p + p + q) (q + q)) * q)) (q * 1)).natAbs : Int) (rd ((p * 1) - ((fl (p + p + q) (q + q)) * q)) (q * 1)))) (.cz (rd ((rn ((p * 1) - ((fl (p + p + q) (q + q)) * q)) (q * 1)).natAbs : Int) (rd ((p * 1) - ((fl (p + p + q) (q + q)) * q)) (q * 1))))) : Known).p v273 (g273 5) := E273.facts 5 (by decide)
  obtain ⟨t286, x288, A289, m290, c291, x292, A293, m294, c295, e296, b287⟩ := put_info4 (E273.facts 6 (by decide)) p266 (pair_shape (num_cz _) (num_cz _) f285)
  have f297 : ((.pair (.cz (rn ((rn ((p * 1) - ((fl (p + p + q) (q + q)) * q)) (q * 1)).natAbs : Int) (rd ((p * 1) - ((fl (p + p + q) (q + q)) * q)) (q * 1)))) (.cz (rd ((rn ((p * 1) - ((fl (p + p + q) (q + q)) * q)) (q * 1)).natAbs : Int) (rd ((p * 1) - ((fl (p + p + q) (q + q)) * q)) (q * 1))))) : Known).p v273 (.agg #[.bool x288, .slice A289 m290 c291, .bool x292, .slice A293 m294 c295]) := pair_at f285 e296.symm
  refine then_normal ?_
  refine wp_ret ?_
  exact bodyPost_ret (ret_r rfl p266 b287) rfl ⟨_, rfl, (by have := f297; rw [Xa, Xb] at this; exact this), T274⟩

theorem set_two {w : World} {g : Nat} {t : TypeId} {c0 c1 c2 c3 : Value} (h : Bx w g t #[c0, c1, c2, c3]) (u v : Value) : PutOf w g t #[u, v, c2, c3] ((w.setCell ⟨g, 0, none⟩ u).setCell ⟨g, 1, none⟩ v) := by
  refine ⟨?_, fun k hk => ?_, by simp [World.setCell], fun B hb => ((Below.refl B w).setCell (p := ⟨g, 0, none⟩) hb u).setCell (p := ⟨g, 1, none⟩) hb v⟩
  · unfold Bx at *
    simp [World.setCell, Array.getElem?_modify, h]
  · rw [Below.heap_setCell _ ⟨g, 1, none⟩ v k hk, Below.heap_setCell _ ⟨g, 0, none⟩ u k hk]
theorem x_store_z0 {a : Act} {w : World} {d : Option Tmp} {ty : TypeId} {pos : String} {after : Array Edge} {guard : Option (Nat × Bool)} {x y : Operand} {g : Nat} {t : TypeId} {b : Bool} {A : Option Addr} {n c : Nat} {c0 c1 c2 c3 : Value} (hx : a.eval x = .pointer (some ⟨g, 0, none⟩)) (hy : a.eval y = .agg #[.bool b, .slice A n c]) (hB : Bx w g t #[c0, c1, c2, c3]) :
    (execOp a.eval ⟨d, .store 24 x y, ty, pos, after, guard⟩).run Try.prog w = .ok .skip ((w.setCell ⟨g, 0, none⟩ (.bool b)).setCell ⟨g, 1, none⟩ (.slice A n c)) := by
  have h0 : w.cell? ⟨g, 0, none⟩ = some c0 := cell_of_row w g 0 _ t (0, 0) hB
  have h1 : w.cell? ⟨g, 1, none⟩ = some c1 := cell_of_row w g 1 _ t (0, 0) hB
  have hf : ∀ i, w.frozen? ⟨g, i, none⟩ = false := fun i => by
    unfold Bx at hB
    simp [World.frozen?, hB]
  have hB2 : Bx (w.setCell ⟨g, 0, none⟩ (.bool b)) g t #[.bool b, c1, c2, c3] := by
    unfold Bx at hB ⊢
    simp [World.setCell, Array.getElem?_modify, hB]
  have k1 : (w.setCell ⟨g, 0, none⟩ (.bool b)).cell? ⟨g, 1, none⟩ = some c1 := cell_of_row _ g 1 _ t (0, 0) hB2
  have kf : ∀ i, (w.setCell ⟨g, 0, none⟩ (.bool b)).frozen? ⟨g, i, none⟩ = false := fun i => by
    unfold Bx at hB2
    simp [World.frozen?, hB2]
  simp only [execOp, hx, hy]
  go_simp
theorem op_val {P : Program} {ops : Array Oper} {Q : Exit → Act → World → Prop} {i : Nat} {o : Oper} {a : Act} {w w' : World} {v : Value} {K : Act → World → Prop} (hi : ops[i]? = some o) (hg : o.guard = none) (he : (execOp a.eval o).run P w = .ok (.value v) w') (hK : K (a.put o.dst v) w') : wpOp P ops Q i K a w := by
  unfold wpOp
  simp only [hi, Region.wanted, hg, if_true]
  left
  unfold Oper.wp
  rw [he]
  exact hK
theorem op_skip {P : Program} {ops : Array Oper} {Q : Exit → Act → World → Prop} {i : Nat} {T ty : TypeId} {x y : Operand} {pos : String} {after : Array Edge} {a : Act} {w w' : World} {K : Act → World → Prop} (hi : ops[i]? = some ⟨none, .store T x y, ty, pos, after, none⟩) (he : (execOp a.eval ⟨none, .store T x y, ty, pos, after, none⟩).run P w = .ok .skip w') (hK : K a w') : wpOp P ops Q i K a w := by
  unfold wpOp
  simp only [hi, Region.wanted, if_true]
  left
  unfold Oper.wp
  rw [he]
  exact hK
theorem op_call {P : Program} {ops : Array Oper} {Q : Exit → Act → World → Prop} {i : Nat} {o : Oper} {a : Act} {w w' : World} {fn : FuncId} {args : Array Value} {f : Known} {K : Act → World → Prop} (hi : ops[i]? = some o) (hg : o.guard = none) (he : (execOp a.eval o).run P w = .ok (.enter fn args) w') (hc : Calls P fn args w' (Ret f w'))
    (hK : ∀ v w5, f.p w5 v → Below w'.heap.size w' w5 → K (a.put o.dst v) w5) : wpOp P ops Q i K a w := by
  unfold wpOp
  simp only [hi, Region.wanted, hg, if_true]
  left
  unfold Oper.wp
  rw [he]
  refine hc.mono fun e w5 h => ?_
  obtain ⟨v, rfl, hv, hB⟩ := h
  exact hK v w5 hv hB
set_option maxRecDepth 8000 in
theorem wp_dist5 {Q : Exit → Act → World → Prop} {ts : Array Value} {w : World} {g N : Nat} {t : TypeId} {b : Bool} {A : Option Addr} {n c : Nat} {b2 : Bool} {A2 : Option Addr} {n2 c2 : Nat} {z : Int} {t0 t1 t2 t3 t4 : TypeId} {s0 s1 s2 s3 s4 : String} {a0 a1 a2 a3 a4 : Array Edge} {T : Array TypeId}
    (hs : ts.size = 29) (h6 : Act.vs ⟨ts, []⟩ 6 = .pointer (some ⟨g, 0, none⟩)) (hB : Bx w g t #[.bool b, .slice A n c, .bool b2, .slice A2 n2 c2]) (hz : Az N w (.agg #[.bool b, .slice A n c]) z)
    (hK : ∀ v24 v25 v26 v27 u U un uc w5 w', Below w.heap.size w w5 → PutOf w5 g t #[.bool u, .slice U un uc, .bool b2, .slice A2 n2 c2] w' → Cz w5 (.agg #[.bool u, .slice U un uc]) (z.natAbs : Int) →
      Q .normal ⟨(((ts.setIfInBounds 24 v24).setIfInBounds 25 v25).setIfInBounds 26 v26).setIfInBounds 27 v27, []⟩ w') :
    (Code.region 5 #[⟨some 24, .fieldAddr 29 (.tmp 6) 0, t0, s0, a0, none⟩, ⟨some 25, .load 24 (.tmp 24), t1, s1, a1, none⟩, ⟨some 26, .call { callee := .value (.func 67), args := #[.tmp 25], argTypes := T }, t2, s2, a2, none⟩,
      ⟨some 27, .fieldAddr 29 (.tmp 6) 0, t3, s3, a3, none⟩, ⟨none, .store 24 (.tmp 27) (.tmp 26), t4, s4, a4, none⟩] false).wp Try.prog Q ⟨ts, []⟩ w := by
  refine wp_region ?_
  show wpOps _ _ _ [0, 1, 2, 3, 4] _ _
  rw [wpOps_cons]
  have sz : ∀ (l : List (Nat × Value)), (l.foldl (fun a p => Act.put a (some p.1) p.2) (⟨ts, []⟩ : Act)).tmps.size = 29 := by
    intro l
    have : ∀ (l : List (Nat × Value)) (a : Act), a.tmps.size = 29 → (l.foldl (fun a p => Act.put a (some p.1) p.2) a).tmps.size = 29 := by
      intro l
      induction l with
      | nil => intro a h; exact h
      | cons p l ih => intro a h; exact ih _ (by simpa [Act.put] using h)
    exact this l _ hs
  refine op_val rfl rfl (x_fld_r0 (g := g) h6) ?_
  rw [wpOps_cons]
  have e24 : Act.vs (Act.put ⟨ts, []⟩ (some 24) (.pointer (some ⟨g, 0, none⟩))) 24 = .pointer (some ⟨g, 0, none⟩) := vs_put_eq (by show 24 < ts.size; omega)
  refine op_val rfl rfl (x_load_r0 (x := .tmp 24) e24 hB) ?_
  rw [wpOps_cons]
  have e25 : Act.vs (Act.put (Act.put ⟨ts, []⟩ (some 24) (.pointer (some ⟨g, 0, none⟩))) (some 25) (.agg #[.bool b, .slice A n c])) 25 = .agg #[.bool b, .slice A n c] := vs_put_eq (by have := sz [(24, .pointer (some ⟨g, 0, none⟩))]; simp only [List.foldl] at this; omega)
  refine op_call rfl rfl (x_call1 Try.call67) (abs_k (hz.at e25)) fun v w5 hv hB5 => ?_
  rw [wpOps_cons]
  obtain ⟨u, U, un, uc, rfl⟩ := Cz.shape hv
  have hB6 := hB.below hB5
  have e6 : Act.vs (Act.put (Act.put (Act.put ⟨ts, []⟩ (some 24) (.pointer (some ⟨g, 0, none⟩))) (some 25) (.agg #[.bool b, .slice A n c])) (some 26) (.agg #[.bool u, .slice U un uc])) 6 = .pointer (some ⟨g, 0, none⟩) := by
    rw [vs_put_ne (by decide), vs_put_ne (by decide), vs_put_ne (by decide)]
    exact h6
  refine op_val rfl rfl (x_fld_r0 (x := .tmp 6) e6) ?_
  rw [wpOps_cons]
  have e27 : Act.vs (Act.put (Act.put (Act.put (Act.put ⟨ts, []⟩ (some 24) (.pointer (some ⟨g, 0, none⟩))) (some 25) (.agg #[.bool b, .slice A n c])) (some 26) (.agg #[.bool u, .slice U un uc])) (some 27) (.pointer (some ⟨g, 0, none⟩))) 27 = .pointer (some ⟨g, 0, none⟩) :=
    vs_put_eq (by have := sz [(24, .pointer (some ⟨g, 0, none⟩)), (25, .agg #[.bool b, .slice A n c]), (26, .agg #[.bool u, .slice U un uc])]; simp only [List.foldl] at this; omega)
  have e26 : Act.vs (Act.put (Act.put (Act.put (Act.put ⟨ts, []⟩ (some 24) (.pointer (some ⟨g, 0, none⟩))) (some 25) (.agg #[.bool b, .slice A n c])) (some 26) (.agg #[.bool u, .slice U un uc])) (some 27) (.pointer (some ⟨g, 0, none⟩))) 26 = .agg #[.bool u, .slice U un uc] := by
    rw [vs_put_ne (by decide)]
    exact vs_put_eq (by have := sz [(24, .pointer (some ⟨g, 0, none⟩)), (25, .agg #[.bool b, .slice A n c])]; simp only [List.foldl] at this; omega)
  exact op_skip rfl (x_store_z0 (x := .tmp 27) (y := .tmp 26) e27 e26 hB6) (hK _ _ _ _ u U un uc w5 _ hB5 (set_two hB6 _ _) hv)

set_option maxHeartbeats 4000000 in
set_option maxRecDepth 8000 in
theorem qdist_b {w : World} {x : Value} {p q : Int} {N0 : Nat} (h0 : Rz N0 w x p q) (dv : decide (q.sign ≤ 0) = true)  : Calls Try.prog 34 #[x] w (Ret (.tup2 (.pair (.cz 0) (.cz 0)) (.is (.int .i64 30))) w) := by
  obtain ⟨na0, A0, n0, c0, nb0, B0, m0, d0, e0r, hx0, hy0⟩ := Rz.parts h0
  subst e0r
  have la0 := hx0.len
  have lb0 := hy0.len
  have T0 : Below w.heap.size w w := Below.refl _ _
  go_enter Try.func34, Try.ntmps34
  refine wp_seq ?_
  have HB : w.heap.size ≤ w.heap.size := T0.size
  refine wp_plan_seq [.new 4 (some (29, #[.bool na0, .slice A0 n0 c0, .bool nb0, .slice B0 m0 d0])), .new 4 (some (29, #[.bool false, .slice none 0 0, .bool false, .slice none 0 0])), .val (.is (.int .i64 0))] [] [] w.heap.size (by kernel_rfl) (by kernel_rfl) trivial HB ?_ ?_
  · exact ⟨fun s v h => does_new rfl rfl (x_box_r (h.same 0 rfl)) (okr _ _ _ _ _ _ _ _) rfl (.inr rfl),
      fun s v h => does_new rfl rfl x_alloc_r (okr _ _ _ _ _ _ _ _) rfl (.inr rfl),
      fun s v h => does_val rfl rfl (x_assign) rfl, trivial⟩
  intro g298 ts v298 hts E298
  simp only [fillL, Nat.reduceAdd, List.setIfInBounds_toArray, List.set_cons_zero, List.set_cons_succ] at hts
  subst hts
  have T299 : Below w.heap.size w v298 := T0.trans E298.below
  have f300 := (pair_mono h0 E298.mono)
  obtain ⟨q302, p303, l304, o305, b306⟩ : ∃ q, g298 0 = .pointer (some ⟨q, 0, none⟩) ∧ w.heap.size ≤ q ∧ OkB v298 q 4 ∧ Bx v298 q 29 #[.bool na0, .slice A0 n0 c0, .bool nb0, .slice B0 m0 d0] := E298.facts 0 (by decide)
  have h307 : w.heap.size ≤ q302 := Nat.le_trans HB l304
  obtain ⟨q308, p309, l310, o311, b312⟩ : ∃ q, g298 1 = .pointer (some ⟨q, 0, none⟩) ∧ w.heap.size ≤ q ∧ OkB v298 q 4 ∧ Bx v298 q 29 #[.bool false, .slice none 0 0, .bool false, .slice none 0 0] := E298.facts 1 (by decide)
  have h314 : w.heap.size ≤ q308 := Nat.le_trans HB l310
  refine then_normal ?_
  refine wp_seq ?_
  have HB : w.heap.size ≤ v298.heap.size := T299.size
  refine wp_plan_seq [.val (.pair (.az N0 p) (.az N0 q)), .val (.tup2 (.cz 0) (.is (.int .i64 30))), .val (.tup2 (.cz 0) (.is (.int .i64 30))), .val (.cz 0), .val (.is (.int .i64 30)), .new 2 none, .put 4 11, .val (.is (.int .i64 30))] [] [] w.heap.size (by kernel_rfl) (by kernel_rfl) trivial HB ?_ ?_
  · exact ⟨fun s v h => does_val rfl rfl (x_load_r ((h.same 1 rfl).trans p303) ((h.far q302 b306.lt (by simp)).trans b306)) (pair_mono f300 h.mono),
      fun s v h => does_call rfl rfl (x_call1 Try.call32) (qnear_b (h.dep 0 rfl) dv),
      fun s v h => does_val rfl rfl (x_move) (h.dep 1 rfl),
      fun s v h => by obtain ⟨r0, r1, e, f0, f1⟩ := tup2_at (h.dep 2 rfl); exact does_val rfl rfl (x_ext e rfl) f0,
      fun s v h => by obtain ⟨r0, r1, e, f0, f1⟩ := tup2_at (h.dep 2 rfl); exact does_val rfl rfl (x_ext e rfl) f1,
      fun s v h => does_new rfl rfl x_alloc_z (okz _ _ _ _) rfl (.inl rfl),
      fun s v h => by obtain ⟨q, e1, e2, e3⟩ := new_at (h.dep 5 rfl); exact does_put_z rfl rfl e1 (h.dep 3 rfl).shape e3 (Nat.le_trans HB e2),
      fun s v h => does_val rfl rfl (x_assign) (h.dep 4 rfl), trivial⟩
  intro g316 ts v316 hts E316
  simp only [fillL, Nat.reduceAdd, List.setIfInBounds_toArray, List.set_cons_zero, List.set_cons_succ] at hts
  subst hts
  have T317 : Below w.heap.size w v316 := T299.trans E316.below
  have l318 : q302 < v298.heap.size := b306.lt
  have l319 : q308 < v298.heap.size := b312.lt
  have b320 : Bx v316 q302 29 #[.bool na0, .slice A0 n0 c0, .bool nb0, .slice B0 m0 d0] := (E316.far q302 b306.lt (by simp)).trans b306
  have b321 : Bx v316 q308 29 #[.bool false, .slice none 0 0, .bool false, .slice none 0 0] := (E316.far q308 b312.lt (by simp)).trans b312
  have f325 : Cz v316 (g316 3) 0 := E316.facts 3 (by decide)
  have e327 : g316 7 = (.int .i64 30) := E316.facts 7 (by decide)
  obtain ⟨q328, p329, l330, o331⟩ : ∃ q, g316 5 = .pointer (some ⟨q, 0, none⟩) ∧ v298.heap.size ≤ q ∧ OkB v316 q 2 := E316.facts 5 (by decide)
  have h332 : w.heap.size ≤ q328 := Nat.le_trans HB l330
  obtain ⟨t335, x337, A338, m339, c340, e341, b336⟩ := put_info (E316.facts 6 (by decide)) p329 f325.shape
  refine then_normal ?_
  refine wp_seq ?_
  refine wp_seq ?_
  have HB : w.heap.size ≤ v316.heap.size := T317.size
  refine wp_plan_seq [.val (.is (.int .i64 30)), .val (.is (.bool true))] [] [] w.heap.size (by kernel_rfl) (by kernel_rfl) trivial HB ?_ ?_
  · exact ⟨fun s v h => does_val rfl rfl (x_move) ((h.same 5 rfl).trans e327),
      fun s v h => does_val rfl rfl (x_neq_err (h.dep 0 rfl) rfl) rfl, trivial⟩
  intro g343 ts v343 hts E343
  simp only [fillL, Nat.reduceAdd, List.setIfInBounds_toArray, List.set_cons_zero, List.set_cons_succ] at hts
  subst hts
  have T344 : Below w.heap.size w v343 := T317.trans E343.below
  have l345 : q302 < v316.heap.size := b320.lt
  have l346 : q308 < v316.heap.size := b321.lt
  have l347 : q328 < v316.heap.size := b336.lt
  have b348 : Bx v343 q302 29 #[.bool na0, .slice A0 n0 c0, .bool nb0, .slice B0 m0 d0] := (E343.far q302 b320.lt (by simp)).trans b320
  have b349 : Bx v343 q308 29 #[.bool false, .slice none 0 0, .bool false, .slice none 0 0] := (E343.far q308 b321.lt (by simp)).trans b321
  have b350 : Bx v343 q328 t335 #[.bool x337, .slice A338 m339 c340] := (E343.far q328 b336.lt (by simp)).trans b336
  have e357 : g343 1 = (.bool true) := E343.facts 1 (by decide)
  refine then_normal ?_
  refine wp_cond_true e357 ?_
  refine wp_seq ?_
  have HB : w.heap.size ≤ v343.heap.size := T344.size
  refine wp_plan_seq [.val (.is (.agg #[.bool false, .slice none 0 0, .bool false, .slice none 0 0])), .val (.is (.int .i64 30)), .put 2 15, .val (.is (.int .i64 30))] [2] [q308] w.heap.size (by kernel_rfl) (by kernel_rfl) ⟨p309, b349.lt, (by simp), trivial⟩ HB ?_ ?_
  · exact ⟨fun s v h => does_val rfl rfl (x_build_r0) rfl,
      fun s v h => does_val rfl rfl (x_move) ((h.same 5 rfl).trans e327),
      fun s v h => does_put_r rfl rfl ((h.same 2 rfl).trans p309) ⟨_, _, _, _, _, _, _, _, (h.dep 0 rfl)⟩ (h.mono.ok _ _ b349.ok4) h314,
      fun s v h => does_val rfl rfl (x_assign) (h.dep 1 rfl), trivial⟩
  intro g358 ts v358 hts E358
  simp only [fillL, Nat.reduceAdd, List.setIfInBounds_toArray, List.set_cons_zero, List.set_cons_succ] at hts
  subst hts
  have T359 : Below w.heap.size w v358 := T344.trans E358.below
  have l360 : q302 < v343.heap.size := b348.lt
  have l361 : q308 < v343.heap.size := b349.lt
  have l362 : q328 < v343.heap.size := b350.lt
  have e370 : g358 0 = (.agg #[.bool false, .slice none 0 0, .bool false, .slice none 0 0]) := E358.facts 0 (by decide)
  have e372 : g358 3 = (.int .i64 30) := E358.facts 3 (by decide)
  obtain ⟨t373, b374⟩ := put_lit (E358.facts 2 (by decide)) p309 e370
  have f375 : ((.pair (.cz 0) (.cz 0)) : Known).p v358 (.agg #[.bool false, .slice none 0 0, .bool false, .slice none 0 0]) := rat_zero _
  refine then_normal ?_
  refine wp_ret ?_
  exact bodyPost_ret (ret_rt rfl p309 b374) rfl ⟨_, rfl, ⟨_, _, rfl, f375, e372⟩, T359⟩

set_option maxHeartbeats 4000000 in
set_option maxRecDepth 8000 in
theorem qdist_k {w : World} {x : Value} {p q : Int} {N0 : Nat} (h0 : Rz N0 w x p q) (hN0 : N0 ≤ 10000000) (hpos : 0 < q) (dv : decide (q.sign ≤ 0) = false) (dv2 : (decide (q.sign ≤ 0) || decide ((1 : Int).sign ≤ 0)) = false)  : Calls Try.prog 34 #[x] w (Ret (.tup2 (.pair (.cz ((rn ((p * 1) - ((fl (p + p + q) (q + q)) * q)) (q * 1)).natAbs : Int)) (.cz (rd ((p * 1) - ((fl (p + p + q) (q + q)) * q)) (q * 1)))) (.is (.int .i64 0))) w) := by
  obtain ⟨na0, A0, n0, c0, nb0, B0, m0, d0, e0r, hx0, hy0⟩ := Rz.parts h0
  subst e0r
  have la0 := hx0.len
  have lb0 := hy0.len
  have hq0 : q ≠ 0 := by omega
  have lnr : (digs (fl (p + p + q) (q + q)).natAbs).length ≤ N0 + 3 := near_len la0 lb0 (by omega) (by omega)
  have lrn : (digs (rn ((p * 1) - ((fl (p + p + q) (q + q)) * q)) (q * 1)).natAbs).length ≤ 30000000 := Nat.le_trans (rn_len (by omega) (len_sub' (n := N0 + N0 + 4) (len_mul la0 (show (digs (Int.natAbs 1)).length ≤ 1 from digs_len_le (by decide))) (len_mul lnr lb0) (by omega) (by omega))) (by omega)
  have T0 : Below w.heap.size w w := Below.refl _ _
  go_enter Try.func34, Try.ntmps34
  refine wp_seq ?_
  have HB : w.heap.size ≤ w.heap.size := T0.size
  refine wp_plan_seq [.new 4 (some (29, #[.bool na0, .slice A0 n0 c0, .bool nb0, .slice B0 m0 d0])), .new 4 (some (29, #[.bool false, .slice none 0 0, .bool false, .slice none 0 0])), .val (.is (.int .i64 0))] [] [] w.heap.size (by kernel_rfl) (by kernel_rfl) trivial HB ?_ ?_
  · exact ⟨fun s v h => does_new rfl rfl (x_box_r (h.same 0 rfl)) (okr _ _ _ _ _ _ _ _) rfl (.inr rfl),
      fun s v h => does_new rfl rfl x_alloc_r (okr _ _ _ _ _ _ _ _) rfl (.inr rfl),
      fun s v h => does_val rfl rfl (x_assign) rfl, trivial⟩
  intro g376 ts v376 hts E376
  simp only [fillL, Nat.reduceAdd, List.setIfInBounds_toArray, List.set_cons_zero, List.set_cons_succ] at hts
  subst hts
  have T377 : Below w.heap.size w v376 := T0.trans E376.below
  have f378 := (pair_mono h0 E376.mono)
  obtain ⟨q380, p381, l382, o383, b384⟩ : ∃ q, g376 0 = .pointer (some ⟨q, 0, none⟩) ∧ w.heap.size ≤ q ∧ OkB v376 q 4 ∧ Bx v376 q 29 #[.bool na0, .slice A0 n0 c0, .bool nb0, .slice B0 m0 d0] := E376.facts 0 (by decide)
  have h385 : w.heap.size ≤ q380 := Nat.le_trans HB l382
  obtain ⟨q386, p387, l388, o389, b390⟩ : ∃ q, g376 1 = .pointer (some ⟨q, 0, none⟩) ∧ w.heap.size ≤ q ∧ OkB v376 q 4 ∧ Bx v376 q 29 #[.bool false, .slice none 0 0, .bool false, .slice none 0 0] := E376.facts 1 (by decide)
  have h392 : w.heap.size ≤ q386 := Nat.le_trans HB l388
  refine then_normal ?_
  refine wp_seq ?_
  have HB : w.heap.size ≤ v376.heap.size := T377.size
  refine wp_plan_seq [.val (.pair (.az N0 p) (.az N0 q)), .val (.tup2 (.cz (fl (p + p + q) (q + q))) (.is (.int .i64 0))), .val (.tup2 (.cz (fl (p + p + q) (q + q))) (.is (.int .i64 0))), .val (.cz (fl (p + p + q) (q + q))), .val (.is (.int .i64 0)), .new 2 none, .put 4 11, .val (.is (.int .i64 0))] [] [] w.heap.size (by kernel_rfl) (by kernel_rfl) trivial HB ?_ ?_
  · exact ⟨fun s v h => does_val rfl rfl (x_load_r ((h.same 1 rfl).trans p381) ((h.far q380 b384.lt (by simp)).trans b384)) (pair_mono f378 h.mono),
      fun s v h => does_call rfl rfl (x_call1 Try.call32) (qnear_k (h.dep 0 rfl) (by omega) hq0 dv),
      fun s v h => does_val rfl rfl (x_move) (h.dep 1 rfl),
      fun s v h => by obtain ⟨r0, r1, e, f0, f1⟩ := tup2_at (h.dep 2 rfl); exact does_val rfl rfl (x_ext e rfl) f0,
      fun s v h => by obtain ⟨r0, r1, e, f0, f1⟩ := tup2_at (h.dep 2 rfl); exact does_val rfl rfl (x_ext e rfl) f1,
      fun s v h => does_new rfl rfl x_alloc_z (okz _ _ _ _) rfl (.inl rfl),
      fun s v h => by obtain ⟨q, e1, e2, e3⟩ := new_at (h.dep 5 rfl); exact does_put_z rfl rfl e1 (h.dep 3 rfl).shape e3 (Nat.le_trans HB e2),
      fun s v h => does_val rfl rfl (x_assign) (h.dep 4 rfl), trivial⟩
  intro g394 ts v394 hts E394
  simp only [fillL, Nat.reduceAdd, List.setIfInBounds_toArray, List.set_cons_zero, List.set_cons_succ] at hts
  subst hts
  have T395 : Below w.heap.size w v394 := T377.trans E394.below
  have l396 : q380 < v376.heap.size := b384.lt
  have l397 : q386 < v376.heap.size := b390.lt
  have b398 : Bx v394 q380 29 #[.bool na0, .slice A0 n0 c0, .bool nb0, .slice B0 m0 d0] := (E394.far q380 b384.lt (by simp)).trans b384
  have b399 : Bx v394 q386 29 #[.bool false, .slice none 0 0, .bool false, .slice none 0 0] := (E394.far q386 b390.lt (by simp)).trans b390
  have f400 := (pair_mono f378 E394.mono)
  have f403 : Cz v394 (g394 3) (fl (p + p + q) (q + q)) := E394.facts 3 (by decide)
  have e405 : g394 7 = (.int .i64 0) := E394.facts 7 (by decide)
  obtain ⟨q406, p407, l408, o409⟩ : ∃ q, g394 5 = .pointer (some ⟨q, 0, none⟩) ∧ v376.heap.size ≤ q ∧ OkB v394 q 2 := E394.facts 5 (by decide)
  have h410 : w.heap.size ≤ q406 := Nat.le_trans HB l408
  obtain ⟨t413, x415, A416, m417, c418, e419, b414⟩ := put_info (E394.facts 6 (by decide)) p407 f403.shape
  have f420 : Cz v394 (.agg #[.bool x415, .slice A416 m417 c418]) (fl (p + p + q) (q + q)) := f403.at e419.symm
  refine then_normal ?_
  refine wp_seq ?_
  refine wp_seq ?_
  have HB : w.heap.size ≤ v394.heap.size := T395.size
  refine wp_plan_seq [.val (.is (.int .i64 0)), .val (.is (.bool false))] [] [] w.heap.size (by kernel_rfl) (by kernel_rfl) trivial HB ?_ ?_
  · exact ⟨fun s v h => does_val rfl rfl (x_move) ((h.same 5 rfl).trans e405),
      fun s v h => does_val rfl rfl (x_neq_err (h.dep 0 rfl) rfl) rfl, trivial⟩
  intro g421 ts v421 hts E421
  simp only [fillL, Nat.reduceAdd, List.setIfInBounds_toArray, List.set_cons_zero, List.set_cons_succ] at hts
  subst hts
  have T422 : Below w.heap.size w v421 := T395.trans E421.below
  have l423 : q380 < v394.heap.size := b398.lt
  have l424 : q386 < v394.heap.size := b399.lt
  have l425 : q406 < v394.heap.size := b414.lt
  have b426 : Bx v421 q380 29 #[.bool na0, .slice A0 n0 c0, .bool nb0, .slice B0 m0 d0] := (E421.far q380 b398.lt (by simp)).trans b398
  have b427 : Bx v421 q386 29 #[.bool false, .slice none 0 0, .bool false, .slice none 0 0] := (E421.far q386 b399.lt (by simp)).trans b399
  have b428 : Bx v421 q406 t413 #[.bool x415, .slice A416 m417 c418] := (E421.far q406 b414.lt (by simp)).trans b414
  have f429 := (pair_mono f400 E421.mono)
  have f433 := (f420.mono E421.mono)
  have e435 : g421 1 = (.bool false) := E421.facts 1 (by decide)
  refine then_normal ?_
  refine wp_cond_false e435 ?_
  refine wp_skip ?_
  refine then_normal ?_
  refine wp_seq ?_
  have HB : w.heap.size ≤ v421.heap.size := T422.size
  refine wp_plan_any [.val (.pair (.az N0 p) (.az N0 q)), .val (.cz (fl (p + p + q) (q + q))), .val (.pair (.cz (fl (p + p + q) (q + q))) (.cz 1)), .val (.tup2 (.pair (.cz (rn ((p * 1) - ((fl (p + p + q) (q + q)) * q)) (q * 1))) (.cz (rd ((p * 1) - ((fl (p + p + q) (q + q)) * q)) (q * 1)))) (.is (.int .i64 0))), .val (.tup2 (.pair (.cz (rn ((p * 1) - ((fl (p + p + q) (q + q)) * q)) (q * 1))) (.cz (rd ((p * 1) - ((fl (p + p + q) (q + q)) * q)) (q * 1)))) (.is (.int .i64 0))), .val (.pair (.cz (rn ((p * 1) - ((fl (p + p + q) (q + q)) * q)) (q * 1))) (.cz (rd ((p * 1) - ((fl (p + p + q) (q + q)) * q)) (q * 1)))), .val (.is (.int .i64 0)), .new 4 none, .put 6 22, .val (.is (.int .i64 0))] [] [] w.heap.size (by kernel_rfl) (by kernel_rfl) (by kernel_rfl) trivial HB ?_ ?_
  · exact ⟨fun s v h => does_val rfl rfl (x_load_r ((h.same 1 rfl).trans p381) ((h.far q380 b426.lt (by simp)).trans b426)) (pair_mono f429 ((Mono.drew _).trans h.mono)),
      fun s v h => does_val rfl rfl (x_load_z ((h.same 4 rfl).trans p407) ((h.far q406 b428.lt (by simp)).trans b428)) (f433.mono ((Mono.drew _).trans h.mono)),
      fun s v h => does_call rfl rfl (x_call1 Try.call18) (qof_k ((h.dep 1 rfl).az (N := (N0 + 3)) lnr)),
      fun s v h => does_call rfl rfl (x_call2 Try.call24) (qsub_k (h.dep 0 rfl) (rz_cc (N := (max (N0 + 3) 1)) (h.dep 2 rfl) (Nat.le_trans lnr (by omega)) (Nat.le_trans (show (digs (Int.natAbs 1)).length ≤ 1 from digs_len_le (by decide)) (by omega))) (by omega) (by omega) hq0 (by decide) dv2),
      fun s v h => does_val rfl rfl (x_move) (h.dep 3 rfl),
      fun s v h => by obtain ⟨r0, r1, e, f0, f1⟩ := tup2_at (h.dep 4 rfl); exact does_val rfl rfl (x_ext e rfl) f0,
      fun s v h => by obtain ⟨r0, r1, e, f0, f1⟩ := tup2_at (h.dep 4 rfl); exact does_val rfl rfl (x_ext e rfl) f1,
      fun s v h => does_new rfl rfl x_alloc_r (okr _ _ _ _ _ _ _ _) rfl (.inl rfl),
      fun s v h => by obtain ⟨q, e1, e2, e3⟩ := new_at (h.dep 7 rfl); exact does_put_r rfl rfl e1 (pair_shape (num_cz _) (num_cz _) (h.dep 5 rfl)) e3 (Nat.le_trans HB e2),
      fun s v h => does_val rfl rfl (x_assign) (h.dep 6 rfl), trivial⟩
  intro g436 ts v436 hts E436
  simp only [fillL, Nat.reduceAdd, List.setIfInBounds_toArray, List.set_cons_zero, List.set_cons_succ] at hts
  subst hts
  have T437 : Below w.heap.size w v436 := (below_toDrew T422).trans E436.below
  have l438 : q380 < v421.heap.size := b426.lt
  have l439 : q386 < v421.heap.size := b427.lt
  have l440 : q406 < v421.heap.size := b428.lt
  have b442 : Bx v436 q386 29 #[.bool false, .slice none 0 0, .bool false, .slice none 0 0] := (E436.far q386 b427.lt (by simp)).trans b427
  have f452 : ((.pair (.cz (rn ((p * 1) - ((fl (p + p + q) (q + q)) * q)) (q * 1))) (.cz (rd ((p * 1) - ((fl (p + p + q) (q + q)) * q)) (q * 1)))) : Known).p v436 (g436 5) := E436.facts 5 (by decide)
  obtain ⟨q455, p456, l457, o458⟩ : ∃ q, g436 7 = .pointer (some ⟨q, 0, none⟩) ∧ v421.heap.size ≤ q ∧ OkB v436 q 4 := E436.facts 7 (by decide)
  have h459 : w.heap.size ≤ q455 := Nat.le_trans HB l457
  have n461 : q386 ≠ q455 := by omega
  obtain ⟨t463, x465, A466, m467, c468, x469, A470, m471, c472, e473, b464⟩ := put_info4 (E436.facts 8 (by decide)) p456 (pair_shape (num_cz _) (num_cz _) f452)
  have f474 : ((.pair (.cz (rn ((p * 1) - ((fl (p + p + q) (q + q)) * q)) (q * 1))) (.cz (rd ((p * 1) - ((fl (p + p + q) (q + q)) * q)) (q * 1)))) : Known).p v436 (.agg #[.bool x465, .slice A466 m467 c468, .bool x469, .slice A470 m471 c472]) := pair_at f452 e473.symm
  refine then_normal ?_
  refine wp_seq ?_
  refine wp_dist5 rfl p456 b464 (Cz.az (pair_fst f474) lrn) ?_
  intro v24 v25 v26 v27 u U un uc w5 w6 hB5 hP hz5
  simp only [List.setIfInBounds_toArray, List.set_cons_zero, List.set_cons_succ]
  have M5 := Mono.below hB5
  have g6 := Bx.below b464 hB5
  have M6 := Mono.put hP g6.ok4 (okr _ _ _ _ _ _ _ _)
  have g2 : Bx w6 q386 29 #[.bool false, .slice none 0 0, .bool false, .slice none 0 0] := (hP.other _ n461).trans (Bx.below b442 hB5)
  have hT6 : Below w.heap.size w w6 := (T437.trans (hB5.mono T437.size)).trans (hP.below _ h459)
  have f6 : ((.pair (.cz ((rn ((p * 1) - ((fl (p + p + q) (q + q)) * q)) (q * 1)).natAbs : Int)) (.cz (rd ((p * 1) - ((fl (p + p + q) (q + q)) * q)) (q * 1)))) : Known).p w6 (.agg #[.bool u, .slice U un uc, .bool x469, .slice A470 m471 c472]) := pair_mk (hz5.mono M6) ((pair_snd f474 : Cz _ _ _).mono M5 |>.mono M6)
  have hb6 := hP.blk
  refine then_normal ?_
  refine wp_seq ?_
  have HB : w.heap.size ≤ w6.heap.size := hT6.size
  refine wp_plan_seq [.val (.pair (.cz ((rn ((p * 1) - ((fl (p + p + q) (q + q)) * q)) (q * 1)).natAbs : Int)) (.cz (rd ((p * 1) - ((fl (p + p + q) (q + q)) * q)) (q * 1)))), .put 2 28, .val (.is (.int .i64 0))] [2] [q386] w.heap.size (by kernel_rfl) (by kernel_rfl) ⟨p387, g2.lt, (by simp), trivial⟩ HB ?_ ?_
  · exact ⟨fun s v h => does_val rfl rfl (x_load_r ((h.same 6 rfl).trans p456) ((h.far q455 hb6.lt (nin1 n461.symm)).trans hb6)) (pair_mono f6 h.mono),
      fun s v h => does_put_r rfl rfl ((h.same 2 rfl).trans p387) (pair_shape (num_cz _) (num_cz _) (h.dep 0 rfl)) (h.mono.ok _ _ g2.ok4) h392,
      fun s v h => does_val rfl rfl (x_assign) rfl, trivial⟩
  intro g475 ts v475 hts E475
  simp only [fillL, Nat.reduceAdd, List.setIfInBounds_toArray, List.set_cons_zero, List.set_cons_succ] at hts
  subst hts
  have T476 : Below w.heap.size w v475 := hT6.trans E475.below
  have l477 : q386 < w6.heap.size := g2.lt
  have l478 : q455 < w6.heap.size := hb6.lt
  have f482 : ((.pair (.cz ((rn ((p * 1) - ((fl (p + p + q) (q + q)) * q)) (q * 1)).natAbs : Int)) (.cz (rd ((p * 1) - ((fl (p + p + q) (q + q)) * q)) (q * 1)))) : Known).p v475 (g475 0) := E475.facts 0 (by decide)
  have e483 : g475 2 = (.int .i64 0) := E475.facts 2 (by decide)
  obtain ⟨t484, x486, A487, m488, c489, x490, A491, m492, c493, e494, b485⟩ := put_info4 (E475.facts 1 (by decide)) p387 (pair_shape (num_cz _) (num_cz _) f482)
  have f495 : ((.pair (.cz ((rn ((p * 1) - ((fl (p + p + q) (q + q)) * q)) (q * 1)).natAbs : Int)) (.cz (rd ((p * 1) - ((fl (p + p + q) (q + q)) * q)) (q * 1)))) : Known).p v475 (.agg #[.bool x486, .slice A487 m488 c489, .bool x490, .slice A491 m492 c493]) := pair_at f482 e494.symm
  refine then_normal ?_
  refine wp_ret ?_
  exact bodyPost_ret (ret_rt rfl p387 b485) rfl ⟨_, rfl, ⟨_, _, rfl, f495, e483⟩, T476⟩

end Go.Proofs.Ytdmahjbjlppeaaa
