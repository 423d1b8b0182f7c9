
/- The law RatField. -/
import Derived.Test.YtdmahjbjlppeaaaQ5
namespace Go.Proofs.Ytdmahjbjlppeaaa
open Go.RowKit

theorem ren2 {P : Program} {F : FuncId} {args : Array Value} {w : World} {a b c d : Int} {k : Known} (e1 : a = c) (e2 : b = d) (h : Calls P F args w (Ret (.tup2 (.pair (.cz a) (.cz b)) k) w)) : Calls P F args w (Ret (.tup2 (.pair (.cz c) (.cz d)) k) w) := by
  subst e1 e2
  exact h

set_option maxHeartbeats 4000000 in
set_option maxRecDepth 8000 in
theorem rf_a {w : World} {x : Value} {p q : Int} (h0 : Rz 1048576 w x p q) {y : Value} {p1 q1 : Int} (h1 : Rz 1048576 w y p1 q1) {z : Value} {p2 q2 : Int} (h2 : Rz 1048576 w z p2 q2) (hp : 0 < q) (hp1 : 0 < q1) (hp2 : 0 < q2) (db : (decide (0 < q.sign) && decide (0 < q1.sign)) = true) (dk : decide (0 < q2.sign) = true) {U1_ W1_ U3_ W3_ U4_ W4_ U6_ W6_ U7_ W7_ U8_ W8_ Uo_ Wo_ : Int} (u0 : rn ((p * q1) + (p1 * q)) (q * q1) = U1_) (v0 : rd ((p * q1) + (p1 * q)) (q * q1) = W1_) (u1 : rn ((p1 * q) + (p * q1)) (q1 * q) = U1_) (v1 : rd ((p1 * q) + (p * q1)) (q1 * q) = W1_) (u2 : rn ((p1 * q2) + (p2 * q1)) (q1 * q2) = U3_) (v2 : rd ((p1 * q2) + (p2 * q1)) (q1 * q2) = W3_) (u3 : rn ((U1_ * q2) + (p2 * W1_)) (W1_ * q2) = U4_) (v3 : rd ((U1_ * q2) + (p2 * W1_)) (W1_ * q2) = W4_) (u4 : rn ((p * W3_) + (U3_ * q)) (q * W3_) = U4_) (v4 : rd ((p * W3_) + (U3_ * q)) (q * W3_) = W4_) (u5 : rn (p * U3_) (q * W3_) = U6_) (v5 : rd (p * U3_) (q * W3_) = W6_) (u6 : rn (p * p1) (q * q1) = U7_) (v6 : rd (p * p1) (q * q1) = W7_) (u7 : rn (p * p2) (q * q2) = U8_) (v7 : rd (p * p2) (q * q2) = W8_) (u8 : rn ((U7_ * W8_) + (U8_ * W7_)) (W7_ * W8_) = U6_) (v8 : rd ((U7_ * W8_) + (U8_ * W7_)) (W7_ * W8_) = W6_) (u9 : rn ((U1_ * q1) - (p1 * W1_)) (W1_ * q1) = Uo_) (v9 : rd ((U1_ * q1) - (p1 * W1_)) (W1_ * q1) = Wo_) (u10 : rn p q = Uo_) (v10 : rd p q = Wo_) (u11 : rn (U7_ * q1) (W7_ * p1) = Uo_) (v11 : rd (U7_ * q1) (W7_ * p1) = Wo_) (hn1 : p1 ≠ 0) (dn : (p1.sign == 0) = false)  : Calls Try.prog 10 #[x, y, z] w (Ret (.is (.bool true)) w) := by
  obtain ⟨na0, A0, n0, c0, nb0, B0, m0, d0, e0r, hx0, hy0⟩ := Rz.parts h0
  subst e0r
  have la0 := hx0.len
  have lb0 := hy0.len
  obtain ⟨na1, A1, n1, c1, nb1, B1, m1, d1, e1r, hx1, hy1⟩ := Rz.parts h1
  subst e1r
  have la1 := hx1.len
  have lb1 := hy1.len
  obtain ⟨na2, A2, n2, c2, nb2, B2, m2, d2, e2r, hx2, hy2⟩ := Rz.parts h2
  subst e2r
  have la2 := hx2.len
  have lb2 := hy2.len
  have hq0 : q ≠ 0 := by omega
  have hq1 : q1 ≠ 0 := by omega
  have hq2 : q2 ≠ 0 := by omega
  have LU1_ : (digs U1_.natAbs).length ≤ 3000000 := by rw [← u0]; exact Nat.le_trans (rn_len (Int.mul_ne_zero hq0 hq1) (len_add' (n := 2097153) (len_mul la0 lb1) (len_mul la1 lb0) (by omega) (by omega))) (by omega)
  have LW1_ : (digs W1_.natAbs).length ≤ 3000000 := by rw [← v0]; exact Nat.le_trans (rd_len (Int.mul_ne_zero hq0 hq1) (len_mul lb0 lb1)) (by omega)
  have PW1_ : 0 < W1_ := by rw [← v0]; exact rd_pos (Int.mul_ne_zero hq0 hq1)
  have ZW1_ : W1_ ≠ 0 := by omega
  have LU3_ : (digs U3_.natAbs).length ≤ 3000000 := by rw [← u2]; exact Nat.le_trans (rn_len (Int.mul_ne_zero hq1 hq2) (len_add' (n := 2097153) (len_mul la1 lb2) (len_mul la2 lb1) (by omega) (by omega))) (by omega)
  have LW3_ : (digs W3_.natAbs).length ≤ 3000000 := by rw [← v2]; exact Nat.le_trans (rd_len (Int.mul_ne_zero hq1 hq2) (len_mul lb1 lb2)) (by omega)
  have PW3_ : 0 < W3_ := by rw [← v2]; exact rd_pos (Int.mul_ne_zero hq1 hq2)
  have ZW3_ : W3_ ≠ 0 := by omega
  have LU4_ : (digs U4_.natAbs).length ≤ 10000000 := by rw [← u3]; exact Nat.le_trans (rn_len (Int.mul_ne_zero ZW1_ hq2) (len_add' (n := 4048577) (len_mul LU1_ lb2) (len_mul la2 LW1_) (by omega) (by omega))) (by omega)
  have LW4_ : (digs W4_.natAbs).length ≤ 10000000 := by rw [← v3]; exact Nat.le_trans (rd_len (Int.mul_ne_zero ZW1_ hq2) (len_mul LW1_ lb2)) (by omega)
  have PW4_ : 0 < W4_ := by rw [← v3]; exact rd_pos (Int.mul_ne_zero ZW1_ hq2)
  have ZW4_ : W4_ ≠ 0 := by omega
  have LU6_ : (digs U6_.natAbs).length ≤ 10000000 := by rw [← u5]; exact Nat.le_trans (rn_len (Int.mul_ne_zero hq0 ZW3_) (len_mul la0 LU3_)) (by omega)
  have LW6_ : (digs W6_.natAbs).length ≤ 10000000 := by rw [← v5]; exact Nat.le_trans (rd_len (Int.mul_ne_zero hq0 ZW3_) (len_mul lb0 LW3_)) (by omega)
  have PW6_ : 0 < W6_ := by rw [← v5]; exact rd_pos (Int.mul_ne_zero hq0 ZW3_)
  have ZW6_ : W6_ ≠ 0 := by omega
  have LU7_ : (digs U7_.natAbs).length ≤ 3000000 := by rw [← u6]; exact Nat.le_trans (rn_len (Int.mul_ne_zero hq0 hq1) (len_mul la0 la1)) (by omega)
  have LW7_ : (digs W7_.natAbs).length ≤ 3000000 := by rw [← v6]; exact Nat.le_trans (rd_len (Int.mul_ne_zero hq0 hq1) (len_mul lb0 lb1)) (by omega)
  have PW7_ : 0 < W7_ := by rw [← v6]; exact rd_pos (Int.mul_ne_zero hq0 hq1)
  have ZW7_ : W7_ ≠ 0 := by omega
  have LU8_ : (digs U8_.natAbs).length ≤ 3000000 := by rw [← u7]; exact Nat.le_trans (rn_len (Int.mul_ne_zero hq0 hq2) (len_mul la0 la2)) (by omega)
  have LW8_ : (digs W8_.natAbs).length ≤ 3000000 := by rw [← v7]; exact Nat.le_trans (rd_len (Int.mul_ne_zero hq0 hq2) (len_mul lb0 lb2)) (by omega)
  have PW8_ : 0 < W8_ := by rw [← v7]; exact rd_pos (Int.mul_ne_zero hq0 hq2)
  have ZW8_ : W8_ ≠ 0 := by omega
  have LUo_ : (digs Uo_.natAbs).length ≤ 1048576 := by rw [← u10]; exact rn_len hq0 la0
  have LWo_ : (digs Wo_.natAbs).length ≤ 1048576 := by rw [← v10]; exact rd_len hq0 lb0
  have PWo_ : 0 < Wo_ := by rw [← v10]; exact rd_pos hq0
  have ZWo_ : Wo_ ≠ 0 := by omega
  have T0 : Below w.heap.size w w := Below.refl _ _
  go_enter Try.func10, Try.ntmps10
  refine wp_seq ?_
  have HB : w.heap.size ≤ w.heap.size := T0.size
  refine wp_plan_seq [.new 4 (some (29, #[.bool na0, .slice A0 n0 c0, .bool nb0, .slice B0 m0 d0])), .new 4 (some (29, #[.bool na1, .slice A1 n1 c1, .bool nb1, .slice B1 m1 d1])), .new 4 (some (29, #[.bool na2, .slice A2 n2 c2, .bool nb2, .slice B2 m2 d2])), .val (.is (.bool false))] [] [] w.heap.size (by kernel_rfl) (by kernel_rfl) trivial HB ?_ ?_
  · exact ⟨fun s v h => does_new rfl rfl (x_box_r (h.same 0 rfl)) (okr _ _ _ _ _ _ _ _) rfl (.inr rfl),
      fun s v h => does_new rfl rfl (x_box_r (h.same 1 rfl)) (okr _ _ _ _ _ _ _ _) rfl (.inr rfl),
      fun s v h => does_new rfl rfl (x_box_r (h.same 2 rfl)) (okr _ _ _ _ _ _ _ _) rfl (.inr rfl),
      fun s v h => does_val rfl rfl (x_assign) rfl, trivial⟩
  intro g2020 ts v2020 hts E2020
  simp only [fillL, Nat.reduceAdd, List.setIfInBounds_toArray, List.set_cons_zero, List.set_cons_succ] at hts
  subst hts
  have T2021 : Below w.heap.size w v2020 := T0.trans E2020.below
  have f2022 := (pair_mono h0 E2020.mono)
  have f2023 := (pair_mono h1 E2020.mono)
  have f2024 := (pair_mono h2 E2020.mono)
  obtain ⟨q2026, p2027, l2028, o2029, b2030⟩ : ∃ q, g2020 0 = .pointer (some ⟨q, 0, none⟩) ∧ w.heap.size ≤ q ∧ OkB v2020 q 4 ∧ Bx v2020 q 29 #[.bool na0, .slice A0 n0 c0, .bool nb0, .slice B0 m0 d0] := E2020.facts 0 (by decide)
  have h2031 : w.heap.size ≤ q2026 := Nat.le_trans HB l2028
  obtain ⟨q2032, p2033, l2034, o2035, b2036⟩ : ∃ q, g2020 1 = .pointer (some ⟨q, 0, none⟩) ∧ w.heap.size ≤ q ∧ OkB v2020 q 4 ∧ Bx v2020 q 29 #[.bool na1, .slice A1 n1 c1, .bool nb1, .slice B1 m1 d1] := E2020.facts 1 (by decide)
  have h2037 : w.heap.size ≤ q2032 := Nat.le_trans HB l2034
  obtain ⟨q2039, p2040, l2041, o2042, b2043⟩ : ∃ q, g2020 2 = .pointer (some ⟨q, 0, none⟩) ∧ w.heap.size ≤ q ∧ OkB v2020 q 4 ∧ Bx v2020 q 29 #[.bool na2, .slice A2 n2 c2, .bool nb2, .slice B2 m2 d2] := E2020.facts 2 (by decide)
  have h2044 : w.heap.size ≤ q2039 := Nat.le_trans HB l2041
  refine then_normal ?_
  refine wp_seq ?_
  refine wp_seq ?_
  have HB : w.heap.size ≤ v2020.heap.size := T2021.size
  refine wp_plan_seq [.val (.is (.bool true)), .val (.is (.bool false))] [] [] w.heap.size (by kernel_rfl) (by kernel_rfl) trivial HB ?_ ?_
  · exact ⟨fun s v h => does_call rfl rfl (x_call0 Try.call16) (lawake_k),
      fun s v h => does_val rfl rfl (x_not (h.dep 0 rfl)) rfl, trivial⟩
  intro g2047 ts v2047 hts E2047
  simp only [fillL, Nat.reduceAdd, List.setIfInBounds_toArray, List.set_cons_zero, List.set_cons_succ] at hts
  subst hts
  have T2048 : Below w.heap.size w v2047 := T2021.trans E2047.below
  have l2049 : q2026 < v2020.heap.size := b2030.lt
  have l2050 : q2032 < v2020.heap.size := b2036.lt
  have l2051 : q2039 < v2020.heap.size := b2043.lt
  have b2052 : Bx v2047 q2026 29 #[.bool na0, .slice A0 n0 c0, .bool nb0, .slice B0 m0 d0] := (E2047.far q2026 b2030.lt (by simp)).trans b2030
  have b2053 : Bx v2047 q2032 29 #[.bool na1, .slice A1 n1 c1, .bool nb1, .slice B1 m1 d1] := (E2047.far q2032 b2036.lt (by simp)).trans b2036
  have b2054 : Bx v2047 q2039 29 #[.bool na2, .slice A2 n2 c2, .bool nb2, .slice B2 m2 d2] := (E2047.far q2039 b2043.lt (by simp)).trans b2043
  have f2055 := (pair_mono f2022 E2047.mono)
  have f2056 := (pair_mono f2023 E2047.mono)
  have f2057 := (pair_mono f2024 E2047.mono)
  have e2059 : g2047 1 = (.bool false) := E2047.facts 1 (by decide)
  refine then_normal ?_
  refine wp_cond_false e2059 ?_
  refine wp_skip ?_
  refine then_normal ?_
  refine wp_seq ?_
  refine wp_seq ?_
  have HB : w.heap.size ≤ v2047.heap.size := T2048.size
  refine wp_plan_seq [.val (.pair (.az 1048576 p) (.az 1048576 q)), .val (.pair (.az 1048576 p1) (.az 1048576 q1)), .val (.is (.bool true)), .val (.is (.bool false)), .val (.is (.bool false)), .val (.pair (.az 1048576 p2) (.az 1048576 q2)), .val (.is (.bool true)), .val (.is (.bool false)), .val (.is (.bool false))] [] [] w.heap.size (by kernel_rfl) (by kernel_rfl) trivial HB ?_ ?_
  · exact ⟨fun s v h => does_val rfl rfl (x_load_r ((h.same 3 rfl).trans p2027) ((h.far q2026 b2052.lt (by simp)).trans b2052)) (pair_mono f2055 h.mono),
      fun s v h => does_val rfl rfl (x_load_r ((h.same 4 rfl).trans p2033) ((h.far q2032 b2053.lt (by simp)).trans b2053)) (pair_mono f2056 h.mono),
      fun s v h => does_call rfl rfl (x_call2 Try.call21) (ret_lit db (lboth_k (h.dep 0 rfl) (h.dep 1 rfl) (by omega) (by omega))),
      fun s v h => does_val rfl rfl (x_not (h.dep 2 rfl)) rfl,
      fun s v h => does_val rfl rfl (x_move) (h.dep 3 rfl),
      fun s v h => does_val rfl (wanted_by (b := false) (want := false) rfl rfl (h.dep 4 rfl)) (x_load_r ((h.same 5 rfl).trans p2040) ((h.far q2039 b2054.lt (by simp)).trans b2054)) (pair_mono f2057 h.mono),
      fun s v h => does_call rfl (wanted_by (b := false) (want := false) rfl rfl (h.dep 4 rfl)) (x_call1 Try.call31) (ret_lit dk (lok_k (h.dep 5 rfl) (by omega))),
      fun s v h => does_val rfl (wanted_by (b := false) (want := false) rfl rfl (h.dep 4 rfl)) (x_not (h.dep 6 rfl)) rfl,
      fun s v h => does_val rfl rfl (x_pick (h.dep 4 rfl)) (h.dep 7 rfl), trivial⟩
  intro g2060 ts v2060 hts E2060
  simp only [fillL, Nat.reduceAdd, List.setIfInBounds_toArray, List.set_cons_zero, List.set_cons_succ] at hts
  subst hts
  have T2061 : Below w.heap.size w v2060 := T2048.trans E2060.below
  have l2062 : q2026 < v2047.heap.size := b2052.lt
  have l2063 : q2032 < v2047.heap.size := b2053.lt
  have l2064 : q2039 < v2047.heap.size := b2054.lt
  have b2065 : Bx v2060 q2026 29 #[.bool na0, .slice A0 n0 c0, .bool nb0, .slice B0 m0 d0] := (E2060.far q2026 b2052.lt (by simp)).trans b2052
  have b2066 : Bx v2060 q2032 29 #[.bool na1, .slice A1 n1 c1, .bool nb1, .slice B1 m1 d1] := (E2060.far q2032 b2053.lt (by simp)).trans b2053
  have b2067 : Bx v2060 q2039 29 #[.bool na2, .slice A2 n2 c2, .bool nb2, .slice B2 m2 d2] := (E2060.far q2039 b2054.lt (by simp)).trans b2054
  have f2068 := (pair_mono f2055 E2060.mono)
  have f2069 := (pair_mono f2056 E2060.mono)
  have f2070 := (pair_mono f2057 E2060.mono)
  have e2079 : g2060 8 = (.bool false) := E2060.facts 8 (by decide)
  refine then_normal ?_
  refine wp_cond_false e2079 ?_
  refine wp_skip ?_
  refine then_normal ?_
  refine wp_seq ?_
  have HB : w.heap.size ≤ v2060.heap.size := T2061.size
  refine wp_plan_seq [.val (.pair (.az 1048576 p) (.az 1048576 q)), .val (.pair (.az 1048576 p1) (.az 1048576 q1)), .val (.tup2 (.pair (.cz U1_) (.cz W1_)) (.is (.int .i64 0))), .val (.tup2 (.pair (.cz U1_) (.cz W1_)) (.is (.int .i64 0))), .val (.pair (.cz U1_) (.cz W1_)), .val (.is (.int .i64 0)), .new 4 none, .put 7 46, .val (.is (.int .i64 0))] [] [] w.heap.size (by kernel_rfl) (by kernel_rfl) trivial HB ?_ ?_
  · exact ⟨fun s v h => does_val rfl rfl (x_load_r ((h.same 3 rfl).trans p2027) ((h.far q2026 b2065.lt (by simp)).trans b2065)) (pair_mono f2068 h.mono),
      fun s v h => does_val rfl rfl (x_load_r ((h.same 4 rfl).trans p2033) ((h.far q2032 b2066.lt (by simp)).trans b2066)) (pair_mono f2069 h.mono),
      fun s v h => does_call rfl rfl (x_call2 Try.call23) ((ren2 u0 v0 (qadd_k (h.dep 0 rfl) (h.dep 1 rfl) (by omega) (by omega) hq0 hq1 (dv_of hp hp1)))),
      fun s v h => does_val rfl rfl (x_move) (h.dep 2 rfl),
      fun s v h => by obtain ⟨r0, r1, e, f0, f1⟩ := tup2_at (h.dep 3 rfl); exact does_val rfl rfl (x_ext e rfl) f0,
      fun s v h => by obtain ⟨r0, r1, e, f0, f1⟩ := tup2_at (h.dep 3 rfl); exact does_val rfl rfl (x_ext e rfl) f1,
      fun s v h => does_new rfl rfl x_alloc_r (okr _ _ _ _ _ _ _ _) rfl (.inl rfl),
      fun s v h => by obtain ⟨q, e1, e2, e3⟩ := new_at (h.dep 6 rfl); exact does_put_r rfl rfl e1 (pair_shape (num_cz _) (num_cz _) (h.dep 4 rfl)) e3 (Nat.le_trans HB e2),
      fun s v h => does_val rfl rfl (x_assign) (h.dep 5 rfl), trivial⟩
  intro g2080 ts v2080 hts E2080
  simp only [fillL, Nat.reduceAdd, List.setIfInBounds_toArray, List.set_cons_zero, List.set_cons_succ] at hts
  subst hts
  have T2081 : Below w.heap.size w v2080 := T2061.trans E2080.below
  have l2082 : q2026 < v2060.heap.size := b2065.lt
  have l2083 : q2032 < v2060.heap.size := b2066.lt
  have l2084 : q2039 < v2060.heap.size := b2067.lt
  have b2085 : Bx v2080 q2026 29 #[.bool na0, .slice A0 n0 c0, .bool nb0, .slice B0 m0 d0] := (E2080.far q2026 b2065.lt (by simp)).trans b2065
  have b2086 : Bx v2080 q2032 29 #[.bool na1, .slice A1 n1 c1, .bool nb1, .slice B1 m1 d1] := (E2080.far q2032 b2066.lt (by simp)).trans b2066
  have b2087 : Bx v2080 q2039 29 #[.bool na2, .slice A2 n2 c2, .bool nb2, .slice B2 m2 d2] := (E2080.far q2039 b2067.lt (by simp)).trans b2067
  have f2088 := (pair_mono f2068 E2080.mono)
  have f2089 := (pair_mono f2069 E2080.mono)
  have f2090 := (pair_mono f2070 E2080.mono)
  have f2096 : ((.pair (.cz U1_) (.cz W1_)) : Known).p v2080 (g2080 4) := E2080.facts 4 (by decide)
  obtain ⟨q2099, p2100, l2101, o2102⟩ : ∃ q, g2080 6 = .pointer (some ⟨q, 0, none⟩) ∧ v2060.heap.size ≤ q ∧ OkB v2080 q 4 := E2080.facts 6 (by decide)
  have h2103 : w.heap.size ≤ q2099 := Nat.le_trans HB l2101
  obtain ⟨t2107, x2109, A2110, m2111, c2112, x2113, A2114, m2115, c2116, e2117, b2108⟩ := put_info4 (E2080.facts 7 (by decide)) p2100 (pair_shape (num_cz _) (num_cz _) f2096)
  have f2118 : ((.pair (.cz U1_) (.cz W1_)) : Known).p v2080 (.agg #[.bool x2109, .slice A2110 m2111 c2112, .bool x2113, .slice A2114 m2115 c2116]) := pair_at f2096 e2117.symm
  refine then_normal ?_
  refine wp_seq ?_
  have HB : w.heap.size ≤ v2080.heap.size := T2081.size
  refine wp_plan_seq [.val (.pair (.az 1048576 p1) (.az 1048576 q1)), .val (.pair (.az 1048576 p) (.az 1048576 q)), .val (.tup2 (.pair (.cz U1_) (.cz W1_)) (.is (.int .i64 0))), .val (.tup2 (.pair (.cz U1_) (.cz W1_)) (.is (.int .i64 0))), .val (.pair (.cz U1_) (.cz W1_)), .val (.is (.int .i64 0)), .new 4 none, .put 9 52, .val (.is (.int .i64 0))] [] [] w.heap.size (by kernel_rfl) (by kernel_rfl) trivial HB ?_ ?_
  · exact ⟨fun s v h => does_val rfl rfl (x_load_r ((h.same 4 rfl).trans p2033) ((h.far q2032 b2086.lt (by simp)).trans b2086)) (pair_mono f2089 h.mono),
      fun s v h => does_val rfl rfl (x_load_r ((h.same 3 rfl).trans p2027) ((h.far q2026 b2085.lt (by simp)).trans b2085)) (pair_mono f2088 h.mono),
      fun s v h => does_call rfl rfl (x_call2 Try.call23) ((ren2 u1 v1 (qadd_k (h.dep 0 rfl) (h.dep 1 rfl) (by omega) (by omega) hq1 hq0 (dv_of hp1 hp)))),
      fun s v h => does_val rfl rfl (x_move) (h.dep 2 rfl),
      fun s v h => by obtain ⟨r0, r1, e, f0, f1⟩ := tup2_at (h.dep 3 rfl); exact does_val rfl rfl (x_ext e rfl) f0,
      fun s v h => by obtain ⟨r0, r1, e, f0, f1⟩ := tup2_at (h.dep 3 rfl); exact does_val rfl rfl (x_ext e rfl) f1,
      fun s v h => does_new rfl rfl x_alloc_r (okr _ _ _ _ _ _ _ _) rfl (.inl rfl),
      fun s v h => by obtain ⟨q, e1, e2, e3⟩ := new_at (h.dep 6 rfl); exact does_put_r rfl rfl e1 (pair_shape (num_cz _) (num_cz _) (h.dep 4 rfl)) e3 (Nat.le_trans HB e2),
      fun s v h => does_val rfl rfl (x_assign) (h.dep 5 rfl), trivial⟩
  intro g2119 ts v2119 hts E2119
  simp only [fillL, Nat.reduceAdd, List.setIfInBounds_toArray, List.set_cons_zero, List.set_cons_succ] at hts
  subst hts
  have T2120 : Below w.heap.size w v2119 := T2081.trans E2119.below
  have l2121 : q2026 < v2080.heap.size := b2085.lt
  have l2122 : q2032 < v2080.heap.size := b2086.lt
  have l2123 : q2039 < v2080.heap.size := b2087.lt
  have l2124 : q2099 < v2080.heap.size := b2108.lt
  have b2125 : Bx v2119 q2026 29 #[.bool na0, .slice A0 n0 c0, .bool nb0, .slice B0 m0 d0] := (E2119.far q2026 b2085.lt (by simp)).trans b2085
  have b2126 : Bx v2119 q2032 29 #[.bool na1, .slice A1 n1 c1, .bool nb1, .slice B1 m1 d1] := (E2119.far q2032 b2086.lt (by simp)).trans b2086
  have b2127 : Bx v2119 q2039 29 #[.bool na2, .slice A2 n2 c2, .bool nb2, .slice B2 m2 d2] := (E2119.far q2039 b2087.lt (by simp)).trans b2087
  have b2128 : Bx v2119 q2099 t2107 #[.bool x2109, .slice A2110 m2111 c2112, .bool x2113, .slice A2114 m2115 c2116] := (E2119.far q2099 b2108.lt (by simp)).trans b2108
  have f2129 := (pair_mono f2088 E2119.mono)
  have f2130 := (pair_mono f2089 E2119.mono)
  have f2131 := (pair_mono f2090 E2119.mono)
  have f2138 := (pair_mono f2118 E2119.mono)
  have f2141 : ((.pair (.cz U1_) (.cz W1_)) : Known).p v2119 (g2119 4) := E2119.facts 4 (by decide)
  obtain ⟨q2144, p2145, l2146, o2147⟩ : ∃ q, g2119 6 = .pointer (some ⟨q, 0, none⟩) ∧ v2080.heap.size ≤ q ∧ OkB v2119 q 4 := E2119.facts 6 (by decide)
  have h2148 : w.heap.size ≤ q2144 := Nat.le_trans HB l2146
  obtain ⟨t2153, x2155, A2156, m2157, c2158, x2159, A2160, m2161, c2162, e2163, b2154⟩ := put_info4 (E2119.facts 7 (by decide)) p2145 (pair_shape (num_cz _) (num_cz _) f2141)
  have f2164 : ((.pair (.cz U1_) (.cz W1_)) : Known).p v2119 (.agg #[.bool x2155, .slice A2156 m2157 c2158, .bool x2159, .slice A2160 m2161 c2162]) := pair_at f2141 e2163.symm
  refine then_normal ?_
  refine wp_seq ?_
  have HB : w.heap.size ≤ v2119.heap.size := T2120.size
  refine wp_plan_seq [.val (.pair (.az 1048576 p1) (.az 1048576 q1)), .val (.pair (.az 1048576 p2) (.az 1048576 q2)), .val (.tup2 (.pair (.cz U3_) (.cz W3_)) (.is (.int .i64 0))), .val (.tup2 (.pair (.cz U3_) (.cz W3_)) (.is (.int .i64 0))), .val (.pair (.cz U3_) (.cz W3_)), .val (.is (.int .i64 0)), .new 4 none, .put 11 58, .val (.is (.int .i64 0))] [] [] w.heap.size (by kernel_rfl) (by kernel_rfl) trivial HB ?_ ?_
  · exact ⟨fun s v h => does_val rfl rfl (x_load_r ((h.same 4 rfl).trans p2033) ((h.far q2032 b2126.lt (by simp)).trans b2126)) (pair_mono f2130 h.mono),
      fun s v h => does_val rfl rfl (x_load_r ((h.same 5 rfl).trans p2040) ((h.far q2039 b2127.lt (by simp)).trans b2127)) (pair_mono f2131 h.mono),
      fun s v h => does_call rfl rfl (x_call2 Try.call23) ((ren2 u2 v2 (qadd_k (h.dep 0 rfl) (h.dep 1 rfl) (by omega) (by omega) hq1 hq2 (dv_of hp1 hp2)))),
      fun s v h => does_val rfl rfl (x_move) (h.dep 2 rfl),
      fun s v h => by obtain ⟨r0, r1, e, f0, f1⟩ := tup2_at (h.dep 3 rfl); exact does_val rfl rfl (x_ext e rfl) f0,
      fun s v h => by obtain ⟨r0, r1, e, f0, f1⟩ := tup2_at (h.dep 3 rfl); exact does_val rfl rfl (x_ext e rfl) f1,
      fun s v h => does_new rfl rfl x_alloc_r (okr _ _ _ _ _ _ _ _) rfl (.inl rfl),
      fun s v h => by obtain ⟨q, e1, e2, e3⟩ := new_at (h.dep 6 rfl); exact does_put_r rfl rfl e1 (pair_shape (num_cz _) (num_cz _) (h.dep 4 rfl)) e3 (Nat.le_trans HB e2),
      fun s v h => does_val rfl rfl (x_assign) (h.dep 5 rfl), trivial⟩
  intro g2165 ts v2165 hts E2165
  simp only [fillL, Nat.reduceAdd, List.setIfInBounds_toArray, List.set_cons_zero, List.set_cons_succ] at hts
  subst hts
  have T2166 : Below w.heap.size w v2165 := T2120.trans E2165.below
  have l2167 : q2026 < v2119.heap.size := b2125.lt
  have l2168 : q2032 < v2119.heap.size := b2126.lt
  have l2169 : q2039 < v2119.heap.size := b2127.lt
  have l2170 : q2099 < v2119.heap.size := b2128.lt
  have l2171 : q2144 < v2119.heap.size := b2154.lt
  have b2172 : Bx v2165 q2026 29 #[.bool na0, .slice A0 n0 c0, .bool nb0, .slice B0 m0 d0] := (E2165.far q2026 b2125.lt (by simp)).trans b2125
  have b2173 : Bx v2165 q2032 29 #[.bool na1, .slice A1 n1 c1, .bool nb1, .slice B1 m1 d1] := (E2165.far q2032 b2126.lt (by simp)).trans b2126
  have b2174 : Bx v2165 q2039 29 #[.bool na2, .slice A2 n2 c2, .bool nb2, .slice B2 m2 d2] := (E2165.far q2039 b2127.lt (by simp)).trans b2127
  have b2175 : Bx v2165 q2099 t2107 #[.bool x2109, .slice A2110 m2111 c2112, .bool x2113, .slice A2114 m2115 c2116] := (E2165.far q2099 b2128.lt (by simp)).trans b2128
  have b2176 : Bx v2165 q2144 t2153 #[.bool x2155, .slice A2156 m2157 c2158, .bool x2159, .slice A2160 m2161 c2162] := (E2165.far q2144 b2154.lt (by simp)).trans b2154
  have f2177 := (pair_mono f2129 E2165.mono)
  have f2178 := (pair_mono f2130 E2165.mono)
  have f2179 := (pair_mono f2131 E2165.mono)
  have f2186 := (pair_mono f2138 E2165.mono)
  have f2190 := (pair_mono f2164 E2165.mono)
  have f2193 : ((.pair (.cz U3_) (.cz W3_)) : Known).p v2165 (g2165 4) := E2165.facts 4 (by decide)
  obtain ⟨q2196, p2197, l2198, o2199⟩ : ∃ q, g2165 6 = .pointer (some ⟨q, 0, none⟩) ∧ v2119.heap.size ≤ q ∧ OkB v2165 q 4 := E2165.facts 6 (by decide)
  have h2200 : w.heap.size ≤ q2196 := Nat.le_trans HB l2198
  obtain ⟨t2206, x2208, A2209, m2210, c2211, x2212, A2213, m2214, c2215, e2216, b2207⟩ := put_info4 (E2165.facts 7 (by decide)) p2197 (pair_shape (num_cz _) (num_cz _) f2193)
  have f2217 : ((.pair (.cz U3_) (.cz W3_)) : Known).p v2165 (.agg #[.bool x2208, .slice A2209 m2210 c2211, .bool x2212, .slice A2213 m2214 c2215]) := pair_at f2193 e2216.symm
  refine then_normal ?_
  refine wp_seq ?_
  have HB : w.heap.size ≤ v2165.heap.size := T2166.size
  refine wp_plan_seq [.val (.pair (.cz U1_) (.cz W1_)), .val (.pair (.az 1048576 p2) (.az 1048576 q2)), .val (.tup2 (.pair (.cz U4_) (.cz W4_)) (.is (.int .i64 0))), .val (.tup2 (.pair (.cz U4_) (.cz W4_)) (.is (.int .i64 0))), .val (.pair (.cz U4_) (.cz W4_)), .val (.is (.int .i64 0)), .new 4 none, .put 13 64, .val (.is (.int .i64 0))] [] [] w.heap.size (by kernel_rfl) (by kernel_rfl) trivial HB ?_ ?_
  · exact ⟨fun s v h => does_val rfl rfl (x_load_r ((h.same 7 rfl).trans p2100) ((h.far q2099 b2175.lt (by simp)).trans b2175)) (pair_mono f2186 h.mono),
      fun s v h => does_val rfl rfl (x_load_r ((h.same 5 rfl).trans p2040) ((h.far q2039 b2174.lt (by simp)).trans b2174)) (pair_mono f2179 h.mono),
      fun s v h => does_call rfl rfl (x_call2 Try.call23) ((ren2 u3 v3 (qadd_k (rz_cc (N := 3000000) (h.dep 0 rfl) LU1_ LW1_) (h.dep 1 rfl) (by omega) (by omega) ZW1_ hq2 (dv_of PW1_ hp2)))),
      fun s v h => does_val rfl rfl (x_move) (h.dep 2 rfl),
      fun s v h => by obtain ⟨r0, r1, e, f0, f1⟩ := tup2_at (h.dep 3 rfl); exact does_val rfl rfl (x_ext e rfl) f0,
      fun s v h => by obtain ⟨r0, r1, e, f0, f1⟩ := tup2_at (h.dep 3 rfl); exact does_val rfl rfl (x_ext e rfl) f1,
      fun s v h => does_new rfl rfl x_alloc_r (okr _ _ _ _ _ _ _ _) rfl (.inl rfl),
      fun s v h => by obtain ⟨q, e1, e2, e3⟩ := new_at (h.dep 6 rfl); exact does_put_r rfl rfl e1 (pair_shape (num_cz _) (num_cz _) (h.dep 4 rfl)) e3 (Nat.le_trans HB e2),
      fun s v h => does_val rfl rfl (x_assign) (h.dep 5 rfl), trivial⟩
  intro g2218 ts v2218 hts E2218
  simp only [fillL, Nat.reduceAdd, List.setIfInBounds_toArray, List.set_cons_zero, List.set_cons_succ] at hts
  subst hts
  have T2219 : Below w.heap.size w v2218 := T2166.trans E2218.below
  have l2220 : q2026 < v2165.heap.size := b2172.lt
  have l2221 : q2032 < v2165.heap.size := b2173.lt
  have l2222 : q2039 < v2165.heap.size := b2174.lt
  have l2223 : q2099 < v2165.heap.size := b2175.lt
  have l2224 : q2144 < v2165.heap.size := b2176.lt
  have l2225 : q2196 < v2165.heap.size := b2207.lt
  have b2226 : Bx v2218 q2026 29 #[.bool na0, .slice A0 n0 c0, .bool nb0, .slice B0 m0 d0] := (E2218.far q2026 b2172.lt (by simp)).trans b2172
  have b2227 : Bx v2218 q2032 29 #[.bool na1, .slice A1 n1 c1, .bool nb1, .slice B1 m1 d1] := (E2218.far q2032 b2173.lt (by simp)).trans b2173
  have b2228 : Bx v2218 q2039 29 #[.bool na2, .slice A2 n2 c2, .bool nb2, .slice B2 m2 d2] := (E2218.far q2039 b2174.lt (by simp)).trans b2174
  have b2229 : Bx v2218 q2099 t2107 #[.bool x2109, .slice A2110 m2111 c2112, .bool x2113, .slice A2114 m2115 c2116] := (E2218.far q2099 b2175.lt (by simp)).trans b2175
  have b2230 : Bx v2218 q2144 t2153 #[.bool x2155, .slice A2156 m2157 c2158, .bool x2159, .slice A2160 m2161 c2162] := (E2218.far q2144 b2176.lt (by simp)).trans b2176
  have b2231 : Bx v2218 q2196 t2206 #[.bool x2208, .slice A2209 m2210 c2211, .bool x2212, .slice A2213 m2214 c2215] := (E2218.far q2196 b2207.lt (by simp)).trans b2207
  have f2232 := (pair_mono f2177 E2218.mono)
  have f2233 := (pair_mono f2178 E2218.mono)
  have f2234 := (pair_mono f2179 E2218.mono)
  have f2241 := (pair_mono f2186 E2218.mono)
  have f2245 := (pair_mono f2190 E2218.mono)
  have f2249 := (pair_mono f2217 E2218.mono)
  have f2252 : ((.pair (.cz U4_) (.cz W4_)) : Known).p v2218 (g2218 4) := E2218.facts 4 (by decide)
  obtain ⟨q2255, p2256, l2257, o2258⟩ : ∃ q, g2218 6 = .pointer (some ⟨q, 0, none⟩) ∧ v2165.heap.size ≤ q ∧ OkB v2218 q 4 := E2218.facts 6 (by decide)
  have h2259 : w.heap.size ≤ q2255 := Nat.le_trans HB l2257
  obtain ⟨t2266, x2268, A2269, m2270, c2271, x2272, A2273, m2274, c2275, e2276, b2267⟩ := put_info4 (E2218.facts 7 (by decide)) p2256 (pair_shape (num_cz _) (num_cz _) f2252)
  have f2277 : ((.pair (.cz U4_) (.cz W4_)) : Known).p v2218 (.agg #[.bool x2268, .slice A2269 m2270 c2271, .bool x2272, .slice A2273 m2274 c2275]) := pair_at f2252 e2276.symm
  refine then_normal ?_
  refine wp_seq ?_
  have HB : w.heap.size ≤ v2218.heap.size := T2219.size
  refine wp_plan_seq [.val (.pair (.az 1048576 p) (.az 1048576 q)), .val (.pair (.cz U3_) (.cz W3_)), .val (.tup2 (.pair (.cz U4_) (.cz W4_)) (.is (.int .i64 0))), .val (.tup2 (.pair (.cz U4_) (.cz W4_)) (.is (.int .i64 0))), .val (.pair (.cz U4_) (.cz W4_)), .val (.is (.int .i64 0)), .new 4 none, .put 15 70, .val (.is (.int .i64 0))] [] [] w.heap.size (by kernel_rfl) (by kernel_rfl) trivial HB ?_ ?_
  · exact ⟨fun s v h => does_val rfl rfl (x_load_r ((h.same 3 rfl).trans p2027) ((h.far q2026 b2226.lt (by simp)).trans b2226)) (pair_mono f2232 h.mono),
      fun s v h => does_val rfl rfl (x_load_r ((h.same 11 rfl).trans p2197) ((h.far q2196 b2231.lt (by simp)).trans b2231)) (pair_mono f2249 h.mono),
      fun s v h => does_call rfl rfl (x_call2 Try.call23) ((ren2 u4 v4 (qadd_k (h.dep 0 rfl) (rz_cc (N := 3000000) (h.dep 1 rfl) LU3_ LW3_) (by omega) (by omega) hq0 ZW3_ (dv_of hp PW3_)))),
      fun s v h => does_val rfl rfl (x_move) (h.dep 2 rfl),
      fun s v h => by obtain ⟨r0, r1, e, f0, f1⟩ := tup2_at (h.dep 3 rfl); exact does_val rfl rfl (x_ext e rfl) f0,
      fun s v h => by obtain ⟨r0, r1, e, f0, f1⟩ := tup2_at (h.dep 3 rfl); exact does_val rfl rfl (x_ext e rfl) f1,
      fun s v h => does_new rfl rfl x_alloc_r (okr _ _ _ _ _ _ _ _) rfl (.inl rfl),
      fun s v h => by obtain ⟨q, e1, e2, e3⟩ := new_at (h.dep 6 rfl); exact does_put_r rfl rfl e1 (pair_shape (num_cz _) (num_cz _) (h.dep 4 rfl)) e3 (Nat.le_trans HB e2),
      fun s v h => does_val rfl rfl (x_assign) (h.dep 5 rfl), trivial⟩
  intro g2278 ts v2278 hts E2278
  simp only [fillL, Nat.reduceAdd, List.setIfInBounds_toArray, List.set_cons_zero, List.set_cons_succ] at hts
  subst hts
  have T2279 : Below w.heap.size w v2278 := T2219.trans E2278.below
  have l2280 : q2026 < v2218.heap.size := b2226.lt
  have l2281 : q2032 < v2218.heap.size := b2227.lt
  have l2282 : q2039 < v2218.heap.size := b2228.lt
  have l2283 : q2099 < v2218.heap.size := b2229.lt
  have l2284 : q2144 < v2218.heap.size := b2230.lt
  have l2285 : q2196 < v2218.heap.size := b2231.lt
  have l2286 : q2255 < v2218.heap.size := b2267.lt
  have b2287 : Bx v2278 q2026 29 #[.bool na0, .slice A0 n0 c0, .bool nb0, .slice B0 m0 d0] := (E2278.far q2026 b2226.lt (by simp)).trans b2226
  have b2288 : Bx v2278 q2032 29 #[.bool na1, .slice A1 n1 c1, .bool nb1, .slice B1 m1 d1] := (E2278.far q2032 b2227.lt (by simp)).trans b2227
  have b2289 : Bx v2278 q2039 29 #[.bool na2, .slice A2 n2 c2, .bool nb2, .slice B2 m2 d2] := (E2278.far q2039 b2228.lt (by simp)).trans b2228
  have b2290 : Bx v2278 q2099 t2107 #[.bool x2109, .slice A2110 m2111 c2112, .bool x2113, .slice A2114 m2115 c2116] := (E2278.far q2099 b2229.lt (by simp)).trans b2229
  have b2291 : Bx v2278 q2144 t2153 #[.bool x2155, .slice A2156 m2157 c2158, .bool x2159, .slice A2160 m2161 c2162] := (E2278.far q2144 b2230.lt (by simp)).trans b2230
  have b2292 : Bx v2278 q2196 t2206 #[.bool x2208, .slice A2209 m2210 c2211, .bool x2212, .slice A2213 m2214 c2215] := (E2278.far q2196 b2231.lt (by simp)).trans b2231
  have b2293 : Bx v2278 q2255 t2266 #[.bool x2268, .slice A2269 m2270 c2271, .bool x2272, .slice A2273 m2274 c2275] := (E2278.far q2255 b2267.lt (by simp)).trans b2267
  have f2294 := (pair_mono f2232 E2278.mono)
  have f2295 := (pair_mono f2233 E2278.mono)
  have f2296 := (pair_mono f2234 E2278.mono)
  have f2303 := (pair_mono f2241 E2278.mono)
  have f2307 := (pair_mono f2245 E2278.mono)
  have f2311 := (pair_mono f2249 E2278.mono)
  have f2315 := (pair_mono f2277 E2278.mono)
  have f2318 : ((.pair (.cz U4_) (.cz W4_)) : Known).p v2278 (g2278 4) := E2278.facts 4 (by decide)
  obtain ⟨q2321, p2322, l2323, o2324⟩ : ∃ q, g2278 6 = .pointer (some ⟨q, 0, none⟩) ∧ v2218.heap.size ≤ q ∧ OkB v2278 q 4 := E2278.facts 6 (by decide)
  have h2325 : w.heap.size ≤ q2321 := Nat.le_trans HB l2323
  obtain ⟨t2333, x2335, A2336, m2337, c2338, x2339, A2340, m2341, c2342, e2343, b2334⟩ := put_info4 (E2278.facts 7 (by decide)) p2322 (pair_shape (num_cz _) (num_cz _) f2318)
  have f2344 : ((.pair (.cz U4_) (.cz W4_)) : Known).p v2278 (.agg #[.bool x2335, .slice A2336 m2337 c2338, .bool x2339, .slice A2340 m2341 c2342]) := pair_at f2318 e2343.symm
  refine then_normal ?_
  refine wp_seq ?_
  have HB : w.heap.size ≤ v2278.heap.size := T2279.size
  refine wp_plan_seq [.val (.pair (.az 1048576 p) (.az 1048576 q)), .val (.pair (.cz U3_) (.cz W3_)), .val (.tup2 (.pair (.cz U6_) (.cz W6_)) (.is (.int .i64 0))), .val (.tup2 (.pair (.cz U6_) (.cz W6_)) (.is (.int .i64 0))), .val (.pair (.cz U6_) (.cz W6_)), .val (.is (.int .i64 0)), .new 4 none, .put 17 76, .val (.is (.int .i64 0))] [] [] w.heap.size (by kernel_rfl) (by kernel_rfl) trivial HB ?_ ?_
  · exact ⟨fun s v h => does_val rfl rfl (x_load_r ((h.same 3 rfl).trans p2027) ((h.far q2026 b2287.lt (by simp)).trans b2287)) (pair_mono f2294 h.mono),
      fun s v h => does_val rfl rfl (x_load_r ((h.same 11 rfl).trans p2197) ((h.far q2196 b2292.lt (by simp)).trans b2292)) (pair_mono f2311 h.mono),
      fun s v h => does_call rfl rfl (x_call2 Try.call27) ((ren2 u5 v5 (qmul_k (h.dep 0 rfl) (rz_cc (N := 3000000) (h.dep 1 rfl) LU3_ LW3_) (by omega) (by omega) hq0 ZW3_ (dv_of hp PW3_)))),
      fun s v h => does_val rfl rfl (x_move) (h.dep 2 rfl),
      fun s v h => by obtain ⟨r0, r1, e, f0, f1⟩ := tup2_at (h.dep 3 rfl); exact does_val rfl rfl (x_ext e rfl) f0,
      fun s v h => by obtain ⟨r0, r1, e, f0, f1⟩ := tup2_at (h.dep 3 rfl); exact does_val rfl rfl (x_ext e rfl) f1,
      fun s v h => does_new rfl rfl x_alloc_r (okr _ _ _ _ _ _ _ _) rfl (.inl rfl),
      fun s v h => by obtain ⟨q, e1, e2, e3⟩ := new_at (h.dep 6 rfl); exact does_put_r rfl rfl e1 (pair_shape (num_cz _) (num_cz _) (h.dep 4 rfl)) e3 (Nat.le_trans HB e2),
      fun s v h => does_val rfl rfl (x_assign) (h.dep 5 rfl), trivial⟩
  intro g2345 ts v2345 hts E2345
  simp only [fillL, Nat.reduceAdd, List.setIfInBounds_toArray, List.set_cons_zero, List.set_cons_succ] at hts
  subst hts
  have T2346 : Below w.heap.size w v2345 := T2279.trans E2345.below
  have l2347 : q2026 < v2278.heap.size := b2287.lt
  have l2348 : q2032 < v2278.heap.size := b2288.lt
  have l2349 : q2039 < v2278.heap.size := b2289.lt
  have l2350 : q2099 < v2278.heap.size := b2290.lt
  have l2351 : q2144 < v2278.heap.size := b2291.lt
  have l2352 : q2196 < v2278.heap.size := b2292.lt
  have l2353 : q2255 < v2278.heap.size := b2293.lt
  have l2354 : q2321 < v2278.heap.size := b2334.lt
  have b2355 : Bx v2345 q2026 29 #[.bool na0, .slice A0 n0 c0, .bool nb0, .slice B0 m0 d0] := (E2345.far q2026 b2287.lt (by simp)).trans b2287
  have b2356 : Bx v2345 q2032 29 #[.bool na1, .slice A1 n1 c1, .bool nb1, .slice B1 m1 d1] := (E2345.far q2032 b2288.lt (by simp)).trans b2288
  have b2357 : Bx v2345 q2039 29 #[.bool na2, .slice A2 n2 c2, .bool nb2, .slice B2 m2 d2] := (E2345.far q2039 b2289.lt (by simp)).trans b2289
  have b2358 : Bx v2345 q2099 t2107 #[.bool x2109, .slice A2110 m2111 c2112, .bool x2113, .slice A2114 m2115 c2116] := (E2345.far q2099 b2290.lt (by simp)).trans b2290
  have b2359 : Bx v2345 q2144 t2153 #[.bool x2155, .slice A2156 m2157 c2158, .bool x2159, .slice A2160 m2161 c2162] := (E2345.far q2144 b2291.lt (by simp)).trans b2291
  have b2360 : Bx v2345 q2196 t2206 #[.bool x2208, .slice A2209 m2210 c2211, .bool x2212, .slice A2213 m2214 c2215] := (E2345.far q2196 b2292.lt (by simp)).trans b2292
  have b2361 : Bx v2345 q2255 t2266 #[.bool x2268, .slice A2269 m2270 c2271, .bool x2272, .slice A2273 m2274 c2275] := (E2345.far q2255 b2293.lt (by simp)).trans b2293
  have b2362 : Bx v2345 q2321 t2333 #[.bool x2335, .slice A2336 m2337 c2338, .bool x2339, .slice A2340 m2341 c2342] := (E2345.far q2321 b2334.lt (by simp)).trans b2334
  have f2363 := (pair_mono f2294 E2345.mono)
  have f2364 := (pair_mono f2295 E2345.mono)
  have f2365 := (pair_mono f2296 E2345.mono)
  have f2372 := (pair_mono f2303 E2345.mono)
  have f2376 := (pair_mono f2307 E2345.mono)
  have f2384 := (pair_mono f2315 E2345.mono)
  have f2388 := (pair_mono f2344 E2345.mono)
  have f2391 : ((.pair (.cz U6_) (.cz W6_)) : Known).p v2345 (g2345 4) := E2345.facts 4 (by decide)
  obtain ⟨q2394, p2395, l2396, o2397⟩ : ∃ q, g2345 6 = .pointer (some ⟨q, 0, none⟩) ∧ v2278.heap.size ≤ q ∧ OkB v2345 q 4 := E2345.facts 6 (by decide)
  have h2398 : w.heap.size ≤ q2394 := Nat.le_trans HB l2396
  obtain ⟨t2407, x2409, A2410, m2411, c2412, x2413, A2414, m2415, c2416, e2417, b2408⟩ := put_info4 (E2345.facts 7 (by decide)) p2395 (pair_shape (num_cz _) (num_cz _) f2391)
  have f2418 : ((.pair (.cz U6_) (.cz W6_)) : Known).p v2345 (.agg #[.bool x2409, .slice A2410 m2411 c2412, .bool x2413, .slice A2414 m2415 c2416]) := pair_at f2391 e2417.symm
  refine then_normal ?_
  refine wp_seq ?_
  have HB : w.heap.size ≤ v2345.heap.size := T2346.size
  refine wp_plan_seq [.val (.pair (.az 1048576 p) (.az 1048576 q)), .val (.pair (.az 1048576 p1) (.az 1048576 q1)), .val (.tup2 (.pair (.cz U7_) (.cz W7_)) (.is (.int .i64 0))), .val (.tup2 (.pair (.cz U7_) (.cz W7_)) (.is (.int .i64 0))), .val (.pair (.cz U7_) (.cz W7_)), .val (.is (.int .i64 0)), .new 4 none, .put 19 82, .val (.is (.int .i64 0))] [] [] w.heap.size (by kernel_rfl) (by kernel_rfl) trivial HB ?_ ?_
  · exact ⟨fun s v h => does_val rfl rfl (x_load_r ((h.same 3 rfl).trans p2027) ((h.far q2026 b2355.lt (by simp)).trans b2355)) (pair_mono f2363 h.mono),
      fun s v h => does_val rfl rfl (x_load_r ((h.same 4 rfl).trans p2033) ((h.far q2032 b2356.lt (by simp)).trans b2356)) (pair_mono f2364 h.mono),
      fun s v h => does_call rfl rfl (x_call2 Try.call27) ((ren2 u6 v6 (qmul_k (h.dep 0 rfl) (h.dep 1 rfl) (by omega) (by omega) hq0 hq1 (dv_of hp hp1)))),
      fun s v h => does_val rfl rfl (x_move) (h.dep 2 rfl),
      fun s v h => by obtain ⟨r0, r1, e, f0, f1⟩ := tup2_at (h.dep 3 rfl); exact does_val rfl rfl (x_ext e rfl) f0,
      fun s v h => by obtain ⟨r0, r1, e, f0, f1⟩ := tup2_at (h.dep 3 rfl); exact does_val rfl rfl (x_ext e rfl) f1,
      fun s v h => does_new rfl rfl x_alloc_r (okr _ _ _ _ _ _ _ _) rfl (.inl rfl),
      fun s v h => by obtain ⟨q, e1, e2, e3⟩ := new_at (h.dep 6 rfl); exact does_put_r rfl rfl e1 (pair_shape (num_cz _) (num_cz _) (h.dep 4 rfl)) e3 (Nat.le_trans HB e2),
      fun s v h => does_val rfl rfl (x_assign) (h.dep 5 rfl), trivial⟩
  intro g2419 ts v2419 hts E2419
  simp only [fillL, Nat.reduceAdd, List.setIfInBounds_toArray, List.set_cons_zero, List.set_cons_succ] at hts
  subst hts
  have T2420 : Below w.heap.size w v2419 := T2346.trans E2419.below
  have l2421 : q2026 < v2345.heap.size := b2355.lt
  have l2422 : q2032 < v2345.heap.size := b2356.lt
  have l2423 : q2039 < v2345.heap.size := b2357.lt
  have l2424 : q2099 < v2345.heap.size := b2358.lt
  have l2425 : q2144 < v2345.heap.size := b2359.lt
  have l2426 : q2196 < v2345.heap.size := b2360.lt
  have l2427 : q2255 < v2345.heap.size := b2361.lt
  have l2428 : q2321 < v2345.heap.size := b2362.lt
  have l2429 : q2394 < v2345.heap.size := b2408.lt
  have b2430 : Bx v2419 q2026 29 #[.bool na0, .slice A0 n0 c0, .bool nb0, .slice B0 m0 d0] := (E2419.far q2026 b2355.lt (by simp)).trans b2355
  have b2431 : Bx v2419 q2032 29 #[.bool na1, .slice A1 n1 c1, .bool nb1, .slice B1 m1 d1] := (E2419.far q2032 b2356.lt (by simp)).trans b2356
  have b2432 : Bx v2419 q2039 29 #[.bool na2, .slice A2 n2 c2, .bool nb2, .slice B2 m2 d2] := (E2419.far q2039 b2357.lt (by simp)).trans b2357
  have b2433 : Bx v2419 q2099 t2107 #[.bool x2109, .slice A2110 m2111 c2112, .bool x2113, .slice A2114 m2115 c2116] := (E2419.far q2099 b2358.lt (by simp)).trans b2358
  have b2434 : Bx v2419 q2144 t2153 #[.bool x2155, .slice A2156 m2157 c2158, .bool x2159, .slice A2160 m2161 c2162] := (E2419.far q2144 b2359.lt (by simp)).trans b2359
  have b2435 : Bx v2419 q2196 t2206 #[.bool x2208, .slice A2209 m2210 c2211, .bool x2212, .slice A2213 m2214 c2215] := (E2419.far q2196 b2360.lt (by simp)).trans b2360
  have b2436 : Bx v2419 q2255 t2266 #[.bool x2268, .slice A2269 m2270 c2271, .bool x2272, .slice A2273 m2274 c2275] := (E2419.far q2255 b2361.lt (by simp)).trans b2361
  have b2437 : Bx v2419 q2321 t2333 #[.bool x2335, .slice A2336 m2337 c2338, .bool x2339, .slice A2340 m2341 c2342] := (E2419.far q2321 b2362.lt (by simp)).trans b2362
  have b2438 : Bx v2419 q2394 t2407 #[.bool x2409, .slice A2410 m2411 c2412, .bool x2413, .slice A2414 m2415 c2416] := (E2419.far q2394 b2408.lt (by simp)).trans b2408
  have f2439 := (pair_mono f2363 E2419.mono)
  have f2440 := (pair_mono f2364 E2419.mono)
  have f2441 := (pair_mono f2365 E2419.mono)
  have f2448 := (pair_mono f2372 E2419.mono)
  have f2452 := (pair_mono f2376 E2419.mono)
  have f2460 := (pair_mono f2384 E2419.mono)
  have f2464 := (pair_mono f2388 E2419.mono)
  have f2468 := (pair_mono f2418 E2419.mono)
  have f2471 : ((.pair (.cz U7_) (.cz W7_)) : Known).p v2419 (g2419 4) := E2419.facts 4 (by decide)
  obtain ⟨q2474, p2475, l2476, o2477⟩ : ∃ q, g2419 6 = .pointer (some ⟨q, 0, none⟩) ∧ v2345.heap.size ≤ q ∧ OkB v2419 q 4 := E2419.facts 6 (by decide)
  have h2478 : w.heap.size ≤ q2474 := Nat.le_trans HB l2476
  obtain ⟨t2488, x2490, A2491, m2492, c2493, x2494, A2495, m2496, c2497, e2498, b2489⟩ := put_info4 (E2419.facts 7 (by decide)) p2475 (pair_shape (num_cz _) (num_cz _) f2471)
  have f2499 : ((.pair (.cz U7_) (.cz W7_)) : Known).p v2419 (.agg #[.bool x2490, .slice A2491 m2492 c2493, .bool x2494, .slice A2495 m2496 c2497]) := pair_at f2471 e2498.symm
  refine then_normal ?_
  refine wp_seq ?_
  have HB : w.heap.size ≤ v2419.heap.size := T2420.size
  refine wp_plan_seq [.val (.pair (.az 1048576 p) (.az 1048576 q)), .val (.pair (.az 1048576 p2) (.az 1048576 q2)), .val (.tup2 (.pair (.cz U8_) (.cz W8_)) (.is (.int .i64 0))), .val (.tup2 (.pair (.cz U8_) (.cz W8_)) (.is (.int .i64 0))), .val (.pair (.cz U8_) (.cz W8_)), .val (.is (.int .i64 0)), .new 4 none, .put 21 88, .val (.is (.int .i64 0))] [] [] w.heap.size (by kernel_rfl) (by kernel_rfl) trivial HB ?_ ?_
  · exact ⟨fun s v h => does_val rfl rfl (x_load_r ((h.same 3 rfl).trans p2027) ((h.far q2026 b2430.lt (by simp)).trans b2430)) (pair_mono f2439 h.mono),
      fun s v h => does_val rfl rfl (x_load_r ((h.same 5 rfl).trans p2040) ((h.far q2039 b2432.lt (by simp)).trans b2432)) (pair_mono f2441 h.mono),
      fun s v h => does_call rfl rfl (x_call2 Try.call27) ((ren2 u7 v7 (qmul_k (h.dep 0 rfl) (h.dep 1 rfl) (by omega) (by omega) hq0 hq2 (dv_of hp hp2)))),
      fun s v h => does_val rfl rfl (x_move) (h.dep 2 rfl),
      fun s v h => by obtain ⟨r0, r1, e, f0, f1⟩ := tup2_at (h.dep 3 rfl); exact does_val rfl rfl (x_ext e rfl) f0,
      fun s v h => by obtain ⟨r0, r1, e, f0, f1⟩ := tup2_at (h.dep 3 rfl); exact does_val rfl rfl (x_ext e rfl) f1,
      fun s v h => does_new rfl rfl x_alloc_r (okr _ _ _ _ _ _ _ _) rfl (.inl rfl),
      fun s v h => by obtain ⟨q, e1, e2, e3⟩ := new_at (h.dep 6 rfl); exact does_put_r rfl rfl e1 (pair_shape (num_cz _) (num_cz _) (h.dep 4 rfl)) e3 (Nat.le_trans HB e2),
      fun s v h => does_val rfl rfl (x_assign) (h.dep 5 rfl), trivial⟩
  intro g2500 ts v2500 hts E2500
  simp only [fillL, Nat.reduceAdd, List.setIfInBounds_toArray, List.set_cons_zero, List.set_cons_succ] at hts
  subst hts
  have T2501 : Below w.heap.size w v2500 := T2420.trans E2500.below
  have l2502 : q2026 < v2419.heap.size := b2430.lt
  have l2503 : q2032 < v2419.heap.size := b2431.lt
  have l2504 : q2039 < v2419.heap.size := b2432.lt
  have l2505 : q2099 < v2419.heap.size := b2433.lt
  have l2506 : q2144 < v2419.heap.size := b2434.lt
  have l2507 : q2196 < v2419.heap.size := b2435.lt
  have l2508 : q2255 < v2419.heap.size := b2436.lt
  have l2509 : q2321 < v2419.heap.size := b2437.lt
  have l2510 : q2394 < v2419.heap.size := b2438.lt
  have l2511 : q2474 < v2419.heap.size := b2489.lt
  have b2512 : Bx v2500 q2026 29 #[.bool na0, .slice A0 n0 c0, .bool nb0, .slice B0 m0 d0] := (E2500.far q2026 b2430.lt (by simp)).trans b2430
  have b2513 : Bx v2500 q2032 29 #[.bool na1, .slice A1 n1 c1, .bool nb1, .slice B1 m1 d1] := (E2500.far q2032 b2431.lt (by simp)).trans b2431
  have b2514 : Bx v2500 q2039 29 #[.bool na2, .slice A2 n2 c2, .bool nb2, .slice B2 m2 d2] := (E2500.far q2039 b2432.lt (by simp)).trans b2432
  have b2515 : Bx v2500 q2099 t2107 #[.bool x2109, .slice A2110 m2111 c2112, .bool x2113, .slice A2114 m2115 c2116] := (E2500.far q2099 b2433.lt (by simp)).trans b2433
  have b2516 : Bx v2500 q2144 t2153 #[.bool x2155, .slice A2156 m2157 c2158, .bool x2159, .slice A2160 m2161 c2162] := (E2500.far q2144 b2434.lt (by simp)).trans b2434
  have b2517 : Bx v2500 q2196 t2206 #[.bool x2208, .slice A2209 m2210 c2211, .bool x2212, .slice A2213 m2214 c2215] := (E2500.far q2196 b2435.lt (by simp)).trans b2435
  have b2518 : Bx v2500 q2255 t2266 #[.bool x2268, .slice A2269 m2270 c2271, .bool x2272, .slice A2273 m2274 c2275] := (E2500.far q2255 b2436.lt (by simp)).trans b2436
  have b2519 : Bx v2500 q2321 t2333 #[.bool x2335, .slice A2336 m2337 c2338, .bool x2339, .slice A2340 m2341 c2342] := (E2500.far q2321 b2437.lt (by simp)).trans b2437
  have b2520 : Bx v2500 q2394 t2407 #[.bool x2409, .slice A2410 m2411 c2412, .bool x2413, .slice A2414 m2415 c2416] := (E2500.far q2394 b2438.lt (by simp)).trans b2438
  have b2521 : Bx v2500 q2474 t2488 #[.bool x2490, .slice A2491 m2492 c2493, .bool x2494, .slice A2495 m2496 c2497] := (E2500.far q2474 b2489.lt (by simp)).trans b2489
  have f2522 := (pair_mono f2439 E2500.mono)
  have f2523 := (pair_mono f2440 E2500.mono)
  have f2531 := (pair_mono f2448 E2500.mono)
  have f2535 := (pair_mono f2452 E2500.mono)
  have f2543 := (pair_mono f2460 E2500.mono)
  have f2547 := (pair_mono f2464 E2500.mono)
  have f2551 := (pair_mono f2468 E2500.mono)
  have f2555 := (pair_mono f2499 E2500.mono)
  have f2558 : ((.pair (.cz U8_) (.cz W8_)) : Known).p v2500 (g2500 4) := E2500.facts 4 (by decide)
  obtain ⟨q2561, p2562, l2563, o2564⟩ : ∃ q, g2500 6 = .pointer (some ⟨q, 0, none⟩) ∧ v2419.heap.size ≤ q ∧ OkB v2500 q 4 := E2500.facts 6 (by decide)
  have h2565 : w.heap.size ≤ q2561 := Nat.le_trans HB l2563
  obtain ⟨t2576, x2578, A2579, m2580, c2581, x2582, A2583, m2584, c2585, e2586, b2577⟩ := put_info4 (E2500.facts 7 (by decide)) p2562 (pair_shape (num_cz _) (num_cz _) f2558)
  have f2587 : ((.pair (.cz U8_) (.cz W8_)) : Known).p v2500 (.agg #[.bool x2578, .slice A2579 m2580 c2581, .bool x2582, .slice A2583 m2584 c2585]) := pair_at f2558 e2586.symm
  refine then_normal ?_
  refine wp_seq ?_
  have HB : w.heap.size ≤ v2500.heap.size := T2501.size
  refine wp_plan_seq [.val (.pair (.cz U7_) (.cz W7_)), .val (.pair (.cz U8_) (.cz W8_)), .val (.tup2 (.pair (.cz U6_) (.cz W6_)) (.is (.int .i64 0))), .val (.tup2 (.pair (.cz U6_) (.cz W6_)) (.is (.int .i64 0))), .val (.pair (.cz U6_) (.cz W6_)), .val (.is (.int .i64 0)), .new 4 none, .put 23 94, .val (.is (.int .i64 0))] [] [] w.heap.size (by kernel_rfl) (by kernel_rfl) trivial HB ?_ ?_
  · exact ⟨fun s v h => does_val rfl rfl (x_load_r ((h.same 19 rfl).trans p2475) ((h.far q2474 b2521.lt (by simp)).trans b2521)) (pair_mono f2555 h.mono),
      fun s v h => does_val rfl rfl (x_load_r ((h.same 21 rfl).trans p2562) ((h.far q2561 b2577.lt (by simp)).trans b2577)) (pair_mono f2587 h.mono),
      fun s v h => does_call rfl rfl (x_call2 Try.call23) ((ren2 u8 v8 (qadd_k (rz_cc (N := 3000000) (h.dep 0 rfl) LU7_ LW7_) (rz_cc (N := 3000000) (h.dep 1 rfl) LU8_ LW8_) (by omega) (by omega) ZW7_ ZW8_ (dv_of PW7_ PW8_)))),
      fun s v h => does_val rfl rfl (x_move) (h.dep 2 rfl),
      fun s v h => by obtain ⟨r0, r1, e, f0, f1⟩ := tup2_at (h.dep 3 rfl); exact does_val rfl rfl (x_ext e rfl) f0,
      fun s v h => by obtain ⟨r0, r1, e, f0, f1⟩ := tup2_at (h.dep 3 rfl); exact does_val rfl rfl (x_ext e rfl) f1,
      fun s v h => does_new rfl rfl x_alloc_r (okr _ _ _ _ _ _ _ _) rfl (.inl rfl),
      fun s v h => by obtain ⟨q, e1, e2, e3⟩ := new_at (h.dep 6 rfl); exact does_put_r rfl rfl e1 (pair_shape (num_cz _) (num_cz _) (h.dep 4 rfl)) e3 (Nat.le_trans HB e2),
      fun s v h => does_val rfl rfl (x_assign) (h.dep 5 rfl), trivial⟩
  intro g2588 ts v2588 hts E2588
  simp only [fillL, Nat.reduceAdd, List.setIfInBounds_toArray, List.set_cons_zero, List.set_cons_succ] at hts
  subst hts
  have T2589 : Below w.heap.size w v2588 := T2501.trans E2588.below
  have l2590 : q2026 < v2500.heap.size := b2512.lt
  have l2591 : q2032 < v2500.heap.size := b2513.lt
  have l2592 : q2039 < v2500.heap.size := b2514.lt
  have l2593 : q2099 < v2500.heap.size := b2515.lt
  have l2594 : q2144 < v2500.heap.size := b2516.lt
  have l2595 : q2196 < v2500.heap.size := b2517.lt
  have l2596 : q2255 < v2500.heap.size := b2518.lt
  have l2597 : q2321 < v2500.heap.size := b2519.lt
  have l2598 : q2394 < v2500.heap.size := b2520.lt
  have l2599 : q2474 < v2500.heap.size := b2521.lt
  have l2600 : q2561 < v2500.heap.size := b2577.lt
  have b2601 : Bx v2588 q2026 29 #[.bool na0, .slice A0 n0 c0, .bool nb0, .slice B0 m0 d0] := (E2588.far q2026 b2512.lt (by simp)).trans b2512
  have b2602 : Bx v2588 q2032 29 #[.bool na1, .slice A1 n1 c1, .bool nb1, .slice B1 m1 d1] := (E2588.far q2032 b2513.lt (by simp)).trans b2513
  have b2603 : Bx v2588 q2039 29 #[.bool na2, .slice A2 n2 c2, .bool nb2, .slice B2 m2 d2] := (E2588.far q2039 b2514.lt (by simp)).trans b2514
  have b2604 : Bx v2588 q2099 t2107 #[.bool x2109, .slice A2110 m2111 c2112, .bool x2113, .slice A2114 m2115 c2116] := (E2588.far q2099 b2515.lt (by simp)).trans b2515
  have b2605 : Bx v2588 q2144 t2153 #[.bool x2155, .slice A2156 m2157 c2158, .bool x2159, .slice A2160 m2161 c2162] := (E2588.far q2144 b2516.lt (by simp)).trans b2516
  have b2606 : Bx v2588 q2196 t2206 #[.bool x2208, .slice A2209 m2210 c2211, .bool x2212, .slice A2213 m2214 c2215] := (E2588.far q2196 b2517.lt (by simp)).trans b2517
  have b2607 : Bx v2588 q2255 t2266 #[.bool x2268, .slice A2269 m2270 c2271, .bool x2272, .slice A2273 m2274 c2275] := (E2588.far q2255 b2518.lt (by simp)).trans b2518
  have b2608 : Bx v2588 q2321 t2333 #[.bool x2335, .slice A2336 m2337 c2338, .bool x2339, .slice A2340 m2341 c2342] := (E2588.far q2321 b2519.lt (by simp)).trans b2519
  have b2609 : Bx v2588 q2394 t2407 #[.bool x2409, .slice A2410 m2411 c2412, .bool x2413, .slice A2414 m2415 c2416] := (E2588.far q2394 b2520.lt (by simp)).trans b2520
  have b2610 : Bx v2588 q2474 t2488 #[.bool x2490, .slice A2491 m2492 c2493, .bool x2494, .slice A2495 m2496 c2497] := (E2588.far q2474 b2521.lt (by simp)).trans b2521
  have b2611 : Bx v2588 q2561 t2576 #[.bool x2578, .slice A2579 m2580 c2581, .bool x2582, .slice A2583 m2584 c2585] := (E2588.far q2561 b2577.lt (by simp)).trans b2577
  have f2612 := (pair_mono f2522 E2588.mono)
  have f2613 := (pair_mono f2523 E2588.mono)
  have f2621 := (pair_mono f2531 E2588.mono)
  have f2625 := (pair_mono f2535 E2588.mono)
  have f2633 := (pair_mono f2543 E2588.mono)
  have f2637 := (pair_mono f2547 E2588.mono)
  have f2641 := (pair_mono f2551 E2588.mono)
  have f2645 := (pair_mono f2555 E2588.mono)
  have f2652 : ((.pair (.cz U6_) (.cz W6_)) : Known).p v2588 (g2588 4) := E2588.facts 4 (by decide)
  have e2654 : g2588 8 = (.int .i64 0) := E2588.facts 8 (by decide)
  obtain ⟨q2655, p2656, l2657, o2658⟩ : ∃ q, g2588 6 = .pointer (some ⟨q, 0, none⟩) ∧ v2500.heap.size ≤ q ∧ OkB v2588 q 4 := E2588.facts 6 (by decide)
  have h2659 : w.heap.size ≤ q2655 := Nat.le_trans HB l2657
  obtain ⟨t2671, x2673, A2674, m2675, c2676, x2677, A2678, m2679, c2680, e2681, b2672⟩ := put_info4 (E2588.facts 7 (by decide)) p2656 (pair_shape (num_cz _) (num_cz _) f2652)
  have f2682 : ((.pair (.cz U6_) (.cz W6_)) : Known).p v2588 (.agg #[.bool x2673, .slice A2674 m2675 c2676, .bool x2677, .slice A2678 m2679 c2680]) := pair_at f2652 e2681.symm
  refine then_normal ?_
  refine wp_seq ?_
  refine wp_seq ?_
  have HB : w.heap.size ≤ v2588.heap.size := T2589.size
  refine wp_plan_seq [.val (.is (.int .i64 0)), .val (.is (.bool false)), .val (.is (.bool false)), .val (.pair (.cz U1_) (.cz W1_)), .val (.pair (.cz U1_) (.cz W1_)), .val (.is (.bool true)), .val (.is (.bool false)), .val (.is (.bool false)), .val (.is (.bool false)), .val (.pair (.cz U4_) (.cz W4_)), .val (.pair (.cz U4_) (.cz W4_)), .val (.is (.bool true)), .val (.is (.bool false)), .val (.is (.bool false)), .val (.is (.bool false)), .val (.pair (.cz U6_) (.cz W6_)), .val (.pair (.cz U6_) (.cz W6_)), .val (.is (.bool true)), .val (.is (.bool false)), .val (.is (.bool false))] [] [] w.heap.size (by kernel_rfl) (by kernel_rfl) trivial HB ?_ ?_
  · exact ⟨fun s v h => does_val rfl rfl (x_move) ((h.same 24 rfl).trans e2654),
      fun s v h => does_val rfl rfl (x_neq_err (h.dep 0 rfl) rfl) rfl,
      fun s v h => does_val rfl rfl (x_move) (h.dep 1 rfl),
      fun s v h => does_val rfl (wanted_by (b := false) (want := false) rfl rfl (h.dep 2 rfl)) (x_load_r ((h.same 7 rfl).trans p2100) ((h.far q2099 b2604.lt (by simp)).trans b2604)) (pair_mono f2621 h.mono),
      fun s v h => does_val rfl (wanted_by (b := false) (want := false) rfl rfl (h.dep 2 rfl)) (x_load_r ((h.same 9 rfl).trans p2145) ((h.far q2144 b2605.lt (by simp)).trans b2605)) (pair_mono f2625 h.mono),
      fun s v h => does_call rfl (wanted_by (b := false) (want := false) rfl rfl (h.dep 2 rfl)) (x_call2 Try.call15) (lsame_k (h.dep 3 rfl) (h.dep 4 rfl) rfl rfl),
      fun s v h => does_val rfl (wanted_by (b := false) (want := false) rfl rfl (h.dep 2 rfl)) (x_not (h.dep 5 rfl)) rfl,
      fun s v h => does_val rfl rfl (x_pick (h.dep 2 rfl)) (h.dep 6 rfl),
      fun s v h => does_val rfl rfl (x_move) (h.dep 7 rfl),
      fun s v h => does_val rfl (wanted_by (b := false) (want := false) rfl rfl (h.dep 8 rfl)) (x_load_r ((h.same 13 rfl).trans p2256) ((h.far q2255 b2607.lt (by simp)).trans b2607)) (pair_mono f2633 h.mono),
      fun s v h => does_val rfl (wanted_by (b := false) (want := false) rfl rfl (h.dep 8 rfl)) (x_load_r ((h.same 15 rfl).trans p2322) ((h.far q2321 b2608.lt (by simp)).trans b2608)) (pair_mono f2637 h.mono),
      fun s v h => does_call rfl (wanted_by (b := false) (want := false) rfl rfl (h.dep 8 rfl)) (x_call2 Try.call15) (lsame_k (h.dep 9 rfl) (h.dep 10 rfl) rfl rfl),
      fun s v h => does_val rfl (wanted_by (b := false) (want := false) rfl rfl (h.dep 8 rfl)) (x_not (h.dep 11 rfl)) rfl,
      fun s v h => does_val rfl rfl (x_pick (h.dep 8 rfl)) (h.dep 12 rfl),
      fun s v h => does_val rfl rfl (x_move) (h.dep 13 rfl),
      fun s v h => does_val rfl (wanted_by (b := false) (want := false) rfl rfl (h.dep 14 rfl)) (x_load_r ((h.same 17 rfl).trans p2395) ((h.far q2394 b2609.lt (by simp)).trans b2609)) (pair_mono f2641 h.mono),
      fun s v h => does_val rfl (wanted_by (b := false) (want := false) rfl rfl (h.dep 14 rfl)) (x_load_r ((h.same 23 rfl).trans p2656) ((h.far q2655 b2672.lt (by simp)).trans b2672)) (pair_mono f2682 h.mono),
      fun s v h => does_call rfl (wanted_by (b := false) (want := false) rfl rfl (h.dep 14 rfl)) (x_call2 Try.call15) (lsame_k (h.dep 15 rfl) (h.dep 16 rfl) rfl rfl),
      fun s v h => does_val rfl (wanted_by (b := false) (want := false) rfl rfl (h.dep 14 rfl)) (x_not (h.dep 17 rfl)) rfl,
      fun s v h => does_val rfl rfl (x_pick (h.dep 14 rfl)) (h.dep 18 rfl), trivial⟩
  intro g2683 ts v2683 hts E2683
  simp only [fillL, Nat.reduceAdd, List.setIfInBounds_toArray, List.set_cons_zero, List.set_cons_succ] at hts
  subst hts
  have T2684 : Below w.heap.size w v2683 := T2589.trans E2683.below
  have l2685 : q2026 < v2588.heap.size := b2601.lt
  have l2686 : q2032 < v2588.heap.size := b2602.lt
  have l2687 : q2039 < v2588.heap.size := b2603.lt
  have l2688 : q2099 < v2588.heap.size := b2604.lt
  have l2689 : q2144 < v2588.heap.size := b2605.lt
  have l2690 : q2196 < v2588.heap.size := b2606.lt
  have l2691 : q2255 < v2588.heap.size := b2607.lt
  have l2692 : q2321 < v2588.heap.size := b2608.lt
  have l2693 : q2394 < v2588.heap.size := b2609.lt
  have l2694 : q2474 < v2588.heap.size := b2610.lt
  have l2695 : q2561 < v2588.heap.size := b2611.lt
  have l2696 : q2655 < v2588.heap.size := b2672.lt
  have b2697 : Bx v2683 q2026 29 #[.bool na0, .slice A0 n0 c0, .bool nb0, .slice B0 m0 d0] := (E2683.far q2026 b2601.lt (by simp)).trans b2601
  have b2698 : Bx v2683 q2032 29 #[.bool na1, .slice A1 n1 c1, .bool nb1, .slice B1 m1 d1] := (E2683.far q2032 b2602.lt (by simp)).trans b2602
  have b2699 : Bx v2683 q2039 29 #[.bool na2, .slice A2 n2 c2, .bool nb2, .slice B2 m2 d2] := (E2683.far q2039 b2603.lt (by simp)).trans b2603
  have b2700 : Bx v2683 q2099 t2107 #[.bool x2109, .slice A2110 m2111 c2112, .bool x2113, .slice A2114 m2115 c2116] := (E2683.far q2099 b2604.lt (by simp)).trans b2604
  have b2701 : Bx v2683 q2144 t2153 #[.bool x2155, .slice A2156 m2157 c2158, .bool x2159, .slice A2160 m2161 c2162] := (E2683.far q2144 b2605.lt (by simp)).trans b2605
  have b2702 : Bx v2683 q2196 t2206 #[.bool x2208, .slice A2209 m2210 c2211, .bool x2212, .slice A2213 m2214 c2215] := (E2683.far q2196 b2606.lt (by simp)).trans b2606
  have b2703 : Bx v2683 q2255 t2266 #[.bool x2268, .slice A2269 m2270 c2271, .bool x2272, .slice A2273 m2274 c2275] := (E2683.far q2255 b2607.lt (by simp)).trans b2607
  have b2704 : Bx v2683 q2321 t2333 #[.bool x2335, .slice A2336 m2337 c2338, .bool x2339, .slice A2340 m2341 c2342] := (E2683.far q2321 b2608.lt (by simp)).trans b2608
  have b2705 : Bx v2683 q2394 t2407 #[.bool x2409, .slice A2410 m2411 c2412, .bool x2413, .slice A2414 m2415 c2416] := (E2683.far q2394 b2609.lt (by simp)).trans b2609
  have b2706 : Bx v2683 q2474 t2488 #[.bool x2490, .slice A2491 m2492 c2493, .bool x2494, .slice A2495 m2496 c2497] := (E2683.far q2474 b2610.lt (by simp)).trans b2610
  have b2707 : Bx v2683 q2561 t2576 #[.bool x2578, .slice A2579 m2580 c2581, .bool x2582, .slice A2583 m2584 c2585] := (E2683.far q2561 b2611.lt (by simp)).trans b2611
  have b2708 : Bx v2683 q2655 t2671 #[.bool x2673, .slice A2674 m2675 c2676, .bool x2677, .slice A2678 m2679 c2680] := (E2683.far q2655 b2672.lt (by simp)).trans b2672
  have f2709 := (pair_mono f2612 E2683.mono)
  have f2710 := (pair_mono f2613 E2683.mono)
  have f2718 := (pair_mono f2621 E2683.mono)
  have f2742 := (pair_mono f2645 E2683.mono)
  have e2770 : g2683 19 = (.bool false) := E2683.facts 19 (by decide)
  refine then_normal ?_
  refine wp_cond_false e2770 ?_
  refine wp_skip ?_
  refine then_normal ?_
  refine wp_seq ?_
  have HB : w.heap.size ≤ v2683.heap.size := T2684.size
  refine wp_plan_seq [.val (.pair (.cz U1_) (.cz W1_)), .val (.pair (.az 1048576 p1) (.az 1048576 q1)), .val (.tup2 (.pair (.cz Uo_) (.cz Wo_)) (.is (.int .i64 0))), .val (.tup2 (.pair (.cz Uo_) (.cz Wo_)) (.is (.int .i64 0))), .val (.pair (.cz Uo_) (.cz Wo_)), .val (.is (.int .i64 0)), .new 4 none, .put 25 120, .val (.is (.int .i64 0))] [] [] w.heap.size (by kernel_rfl) (by kernel_rfl) trivial HB ?_ ?_
  · exact ⟨fun s v h => does_val rfl rfl (x_load_r ((h.same 7 rfl).trans p2100) ((h.far q2099 b2700.lt (by simp)).trans b2700)) (pair_mono f2718 h.mono),
      fun s v h => does_val rfl rfl (x_load_r ((h.same 4 rfl).trans p2033) ((h.far q2032 b2698.lt (by simp)).trans b2698)) (pair_mono f2710 h.mono),
      fun s v h => does_call rfl rfl (x_call2 Try.call24) ((ren2 u9 v9 (qsub_k (rz_cc (N := 3000000) (h.dep 0 rfl) LU1_ LW1_) (h.dep 1 rfl) (by omega) (by omega) ZW1_ hq1 (dv_of PW1_ hp1)))),
      fun s v h => does_val rfl rfl (x_move) (h.dep 2 rfl),
      fun s v h => by obtain ⟨r0, r1, e, f0, f1⟩ := tup2_at (h.dep 3 rfl); exact does_val rfl rfl (x_ext e rfl) f0,
      fun s v h => by obtain ⟨r0, r1, e, f0, f1⟩ := tup2_at (h.dep 3 rfl); exact does_val rfl rfl (x_ext e rfl) f1,
      fun s v h => does_new rfl rfl x_alloc_r (okr _ _ _ _ _ _ _ _) rfl (.inl rfl),
      fun s v h => by obtain ⟨q, e1, e2, e3⟩ := new_at (h.dep 6 rfl); exact does_put_r rfl rfl e1 (pair_shape (num_cz _) (num_cz _) (h.dep 4 rfl)) e3 (Nat.le_trans HB e2),
      fun s v h => does_val rfl rfl (x_assign) (h.dep 5 rfl), trivial⟩
  intro g2771 ts v2771 hts E2771
  simp only [fillL, Nat.reduceAdd, List.setIfInBounds_toArray, List.set_cons_zero, List.set_cons_succ] at hts
  subst hts
  have T2772 : Below w.heap.size w v2771 := T2684.trans E2771.below
  have l2773 : q2026 < v2683.heap.size := b2697.lt
  have l2774 : q2032 < v2683.heap.size := b2698.lt
  have l2775 : q2039 < v2683.heap.size := b2699.lt
  have l2776 : q2099 < v2683.heap.size := b2700.lt
  have l2777 : q2144 < v2683.heap.size := b2701.lt
  have l2778 : q2196 < v2683.heap.size := b2702.lt
  have l2779 : q2255 < v2683.heap.size := b2703.lt
  have l2780 : q2321 < v2683.heap.size := b2704.lt
  have l2781 : q2394 < v2683.heap.size := b2705.lt
  have l2782 : q2474 < v2683.heap.size := b2706.lt
  have l2783 : q2561 < v2683.heap.size := b2707.lt
  have l2784 : q2655 < v2683.heap.size := b2708.lt
  have b2785 : Bx v2771 q2026 29 #[.bool na0, .slice A0 n0 c0, .bool nb0, .slice B0 m0 d0] := (E2771.far q2026 b2697.lt (by simp)).trans b2697
  have b2786 : Bx v2771 q2032 29 #[.bool na1, .slice A1 n1 c1, .bool nb1, .slice B1 m1 d1] := (E2771.far q2032 b2698.lt (by simp)).trans b2698
  have b2787 : Bx v2771 q2039 29 #[.bool na2, .slice A2 n2 c2, .bool nb2, .slice B2 m2 d2] := (E2771.far q2039 b2699.lt (by simp)).trans b2699
  have b2788 : Bx v2771 q2099 t2107 #[.bool x2109, .slice A2110 m2111 c2112, .bool x2113, .slice A2114 m2115 c2116] := (E2771.far q2099 b2700.lt (by simp)).trans b2700
  have b2789 : Bx v2771 q2144 t2153 #[.bool x2155, .slice A2156 m2157 c2158, .bool x2159, .slice A2160 m2161 c2162] := (E2771.far q2144 b2701.lt (by simp)).trans b2701
  have b2790 : Bx v2771 q2196 t2206 #[.bool x2208, .slice A2209 m2210 c2211, .bool x2212, .slice A2213 m2214 c2215] := (E2771.far q2196 b2702.lt (by simp)).trans b2702
  have b2791 : Bx v2771 q2255 t2266 #[.bool x2268, .slice A2269 m2270 c2271, .bool x2272, .slice A2273 m2274 c2275] := (E2771.far q2255 b2703.lt (by simp)).trans b2703
  have b2792 : Bx v2771 q2321 t2333 #[.bool x2335, .slice A2336 m2337 c2338, .bool x2339, .slice A2340 m2341 c2342] := (E2771.far q2321 b2704.lt (by simp)).trans b2704
  have b2793 : Bx v2771 q2394 t2407 #[.bool x2409, .slice A2410 m2411 c2412, .bool x2413, .slice A2414 m2415 c2416] := (E2771.far q2394 b2705.lt (by simp)).trans b2705
  have b2794 : Bx v2771 q2474 t2488 #[.bool x2490, .slice A2491 m2492 c2493, .bool x2494, .slice A2495 m2496 c2497] := (E2771.far q2474 b2706.lt (by simp)).trans b2706
  have b2795 : Bx v2771 q2561 t2576 #[.bool x2578, .slice A2579 m2580 c2581, .bool x2582, .slice A2583 m2584 c2585] := (E2771.far q2561 b2707.lt (by simp)).trans b2707
  have b2796 : Bx v2771 q2655 t2671 #[.bool x2673, .slice A2674 m2675 c2676, .bool x2677, .slice A2678 m2679 c2680] := (E2771.far q2655 b2708.lt (by simp)).trans b2708
  have f2797 := (pair_mono f2709 E2771.mono)
  have f2798 := (pair_mono f2710 E2771.mono)
  have f2830 := (pair_mono f2742 E2771.mono)
  have f2847 : ((.pair (.cz Uo_) (.cz Wo_)) : Known).p v2771 (g2771 4) := E2771.facts 4 (by decide)
  have e2849 : g2771 8 = (.int .i64 0) := E2771.facts 8 (by decide)
  obtain ⟨q2850, p2851, l2852, o2853⟩ : ∃ q, g2771 6 = .pointer (some ⟨q, 0, none⟩) ∧ v2683.heap.size ≤ q ∧ OkB v2771 q 4 := E2771.facts 6 (by decide)
  have h2854 : w.heap.size ≤ q2850 := Nat.le_trans HB l2852
  obtain ⟨t2867, x2869, A2870, m2871, c2872, x2873, A2874, m2875, c2876, e2877, b2868⟩ := put_info4 (E2771.facts 7 (by decide)) p2851 (pair_shape (num_cz _) (num_cz _) f2847)
  have f2878 : ((.pair (.cz Uo_) (.cz Wo_)) : Known).p v2771 (.agg #[.bool x2869, .slice A2870 m2871 c2872, .bool x2873, .slice A2874 m2875 c2876]) := pair_at f2847 e2877.symm
  refine then_normal ?_
  refine wp_seq ?_
  have HB : w.heap.size ≤ v2771.heap.size := T2772.size
  refine wp_plan_seq [.val (.is (.pointer (some ⟨q2026, 0, none⟩))), .val (.az 1048576 p), .val (.is (.pointer (some ⟨q2026, 2, none⟩))), .val (.az 1048576 q), .val (.tup2 (.pair (.cz Uo_) (.cz Wo_)) (.is (.int .i64 0))), .val (.tup2 (.pair (.cz Uo_) (.cz Wo_)) (.is (.int .i64 0))), .val (.pair (.cz Uo_) (.cz Wo_)), .val (.is (.int .i64 0)), .new 4 none, .put 27 128, .val (.is (.int .i64 0))] [] [] w.heap.size (by kernel_rfl) (by kernel_rfl) trivial HB ?_ ?_
  · exact ⟨fun s v h => does_val rfl rfl (x_fld_r0 ((h.same 3 rfl).trans p2027)) rfl,
      fun s v h => does_val rfl rfl (x_load_r0 (h.dep 0 rfl) ((h.far q2026 b2785.lt (by simp)).trans b2785)) (pair_fst (pair_mono f2797 h.mono)),
      fun s v h => does_val rfl rfl (x_fld_r1 ((h.same 3 rfl).trans p2027)) rfl,
      fun s v h => does_val rfl rfl (x_load_r1 (h.dep 2 rfl) ((h.far q2026 b2785.lt (by simp)).trans b2785)) (pair_snd (pair_mono f2797 h.mono)),
      fun s v h => does_call rfl rfl (x_call2 Try.call13) ((ren2 u10 v10 (qmake_a (h.dep 1 rfl) (h.dep 3 rfl) (by omega) (by omega) hq0 (sgn_nz hq0)))),
      fun s v h => does_val rfl rfl (x_move) (h.dep 4 rfl),
      fun s v h => by obtain ⟨r0, r1, e, f0, f1⟩ := tup2_at (h.dep 5 rfl); exact does_val rfl rfl (x_ext e rfl) f0,
      fun s v h => by obtain ⟨r0, r1, e, f0, f1⟩ := tup2_at (h.dep 5 rfl); exact does_val rfl rfl (x_ext e rfl) f1,
      fun s v h => does_new rfl rfl x_alloc_r (okr _ _ _ _ _ _ _ _) rfl (.inl rfl),
      fun s v h => by obtain ⟨q, e1, e2, e3⟩ := new_at (h.dep 8 rfl); exact does_put_r rfl rfl e1 (pair_shape (num_cz _) (num_cz _) (h.dep 6 rfl)) e3 (Nat.le_trans HB e2),
      fun s v h => does_val rfl rfl (x_assign) (h.dep 7 rfl), trivial⟩
  intro g2879 ts v2879 hts E2879
  simp only [fillL, Nat.reduceAdd, List.setIfInBounds_toArray, List.set_cons_zero, List.set_cons_succ] at hts
  subst hts
  have T2880 : Below w.heap.size w v2879 := T2772.trans E2879.below
  have l2881 : q2026 < v2771.heap.size := b2785.lt
  have l2882 : q2032 < v2771.heap.size := b2786.lt
  have l2883 : q2039 < v2771.heap.size := b2787.lt
  have l2884 : q2099 < v2771.heap.size := b2788.lt
  have l2885 : q2144 < v2771.heap.size := b2789.lt
  have l2886 : q2196 < v2771.heap.size := b2790.lt
  have l2887 : q2255 < v2771.heap.size := b2791.lt
  have l2888 : q2321 < v2771.heap.size := b2792.lt
  have l2889 : q2394 < v2771.heap.size := b2793.lt
  have l2890 : q2474 < v2771.heap.size := b2794.lt
  have l2891 : q2561 < v2771.heap.size := b2795.lt
  have l2892 : q2655 < v2771.heap.size := b2796.lt
  have l2893 : q2850 < v2771.heap.size := b2868.lt
  have b2894 : Bx v2879 q2026 29 #[.bool na0, .slice A0 n0 c0, .bool nb0, .slice B0 m0 d0] := (E2879.far q2026 b2785.lt (by simp)).trans b2785
  have b2895 : Bx v2879 q2032 29 #[.bool na1, .slice A1 n1 c1, .bool nb1, .slice B1 m1 d1] := (E2879.far q2032 b2786.lt (by simp)).trans b2786
  have b2896 : Bx v2879 q2039 29 #[.bool na2, .slice A2 n2 c2, .bool nb2, .slice B2 m2 d2] := (E2879.far q2039 b2787.lt (by simp)).trans b2787
  have b2897 : Bx v2879 q2099 t2107 #[.bool x2109, .slice A2110 m2111 c2112, .bool x2113, .slice A2114 m2115 c2116] := (E2879.far q2099 b2788.lt (by simp)).trans b2788
  have b2898 : Bx v2879 q2144 t2153 #[.bool x2155, .slice A2156 m2157 c2158, .bool x2159, .slice A2160 m2161 c2162] := (E2879.far q2144 b2789.lt (by simp)).trans b2789
  have b2899 : Bx v2879 q2196 t2206 #[.bool x2208, .slice A2209 m2210 c2211, .bool x2212, .slice A2213 m2214 c2215] := (E2879.far q2196 b2790.lt (by simp)).trans b2790
  have b2900 : Bx v2879 q2255 t2266 #[.bool x2268, .slice A2269 m2270 c2271, .bool x2272, .slice A2273 m2274 c2275] := (E2879.far q2255 b2791.lt (by simp)).trans b2791
  have b2901 : Bx v2879 q2321 t2333 #[.bool x2335, .slice A2336 m2337 c2338, .bool x2339, .slice A2340 m2341 c2342] := (E2879.far q2321 b2792.lt (by simp)).trans b2792
  have b2902 : Bx v2879 q2394 t2407 #[.bool x2409, .slice A2410 m2411 c2412, .bool x2413, .slice A2414 m2415 c2416] := (E2879.far q2394 b2793.lt (by simp)).trans b2793
  have b2903 : Bx v2879 q2474 t2488 #[.bool x2490, .slice A2491 m2492 c2493, .bool x2494, .slice A2495 m2496 c2497] := (E2879.far q2474 b2794.lt (by simp)).trans b2794
  have b2904 : Bx v2879 q2561 t2576 #[.bool x2578, .slice A2579 m2580 c2581, .bool x2582, .slice A2583 m2584 c2585] := (E2879.far q2561 b2795.lt (by simp)).trans b2795
  have b2905 : Bx v2879 q2655 t2671 #[.bool x2673, .slice A2674 m2675 c2676, .bool x2677, .slice A2678 m2679 c2680] := (E2879.far q2655 b2796.lt (by simp)).trans b2796
  have b2906 : Bx v2879 q2850 t2867 #[.bool x2869, .slice A2870 m2871 c2872, .bool x2873, .slice A2874 m2875 c2876] := (E2879.far q2850 b2868.lt (by simp)).trans b2868
  have f2908 := (pair_mono f2798 E2879.mono)
  have f2940 := (pair_mono f2830 E2879.mono)
  have f2958 := (pair_mono f2878 E2879.mono)
  have f2961 : ((.pair (.cz Uo_) (.cz Wo_)) : Known).p v2879 (g2879 6) := E2879.facts 6 (by decide)
  obtain ⟨q2964, p2965, l2966, o2967⟩ : ∃ q, g2879 8 = .pointer (some ⟨q, 0, none⟩) ∧ v2771.heap.size ≤ q ∧ OkB v2879 q 4 := E2879.facts 8 (by decide)
  have h2968 : w.heap.size ≤ q2964 := Nat.le_trans HB l2966
  obtain ⟨t2982, x2984, A2985, m2986, c2987, x2988, A2989, m2990, c2991, e2992, b2983⟩ := put_info4 (E2879.facts 9 (by decide)) p2965 (pair_shape (num_cz _) (num_cz _) f2961)
  have f2993 : ((.pair (.cz Uo_) (.cz Wo_)) : Known).p v2879 (.agg #[.bool x2984, .slice A2985 m2986 c2987, .bool x2988, .slice A2989 m2990 c2991]) := pair_at f2961 e2992.symm
  refine then_normal ?_
  refine wp_seq ?_
  refine wp_seq ?_
  have HB : w.heap.size ≤ v2879.heap.size := T2880.size
  refine wp_plan_seq [.val (.is (.int .i64 0)), .val (.is (.bool false)), .val (.is (.bool false)), .val (.pair (.cz Uo_) (.cz Wo_)), .val (.pair (.cz Uo_) (.cz Wo_)), .val (.is (.bool true)), .val (.is (.bool false)), .val (.is (.bool false))] [] [] w.heap.size (by kernel_rfl) (by kernel_rfl) trivial HB ?_ ?_
  · exact ⟨fun s v h => does_val rfl rfl (x_move) ((h.same 26 rfl).trans e2849),
      fun s v h => does_val rfl rfl (x_neq_err (h.dep 0 rfl) rfl) rfl,
      fun s v h => does_val rfl rfl (x_move) (h.dep 1 rfl),
      fun s v h => does_val rfl (wanted_by (b := false) (want := false) rfl rfl (h.dep 2 rfl)) (x_load_r ((h.same 25 rfl).trans p2851) ((h.far q2850 b2906.lt (by simp)).trans b2906)) (pair_mono f2958 h.mono),
      fun s v h => does_val rfl (wanted_by (b := false) (want := false) rfl rfl (h.dep 2 rfl)) (x_load_r ((h.same 27 rfl).trans p2965) ((h.far q2964 b2983.lt (by simp)).trans b2983)) (pair_mono f2993 h.mono),
      fun s v h => does_call rfl (wanted_by (b := false) (want := false) rfl rfl (h.dep 2 rfl)) (x_call2 Try.call15) (lsame_k (h.dep 3 rfl) (h.dep 4 rfl) rfl rfl),
      fun s v h => does_val rfl (wanted_by (b := false) (want := false) rfl rfl (h.dep 2 rfl)) (x_not (h.dep 5 rfl)) rfl,
      fun s v h => does_val rfl rfl (x_pick (h.dep 2 rfl)) (h.dep 6 rfl), trivial⟩
  intro g2994 ts v2994 hts E2994
  simp only [fillL, Nat.reduceAdd, List.setIfInBounds_toArray, List.set_cons_zero, List.set_cons_succ] at hts
  subst hts
  have T2995 : Below w.heap.size w v2994 := T2880.trans E2994.below
  have l2996 : q2026 < v2879.heap.size := b2894.lt
  have l2997 : q2032 < v2879.heap.size := b2895.lt
  have l2998 : q2039 < v2879.heap.size := b2896.lt
  have l2999 : q2099 < v2879.heap.size := b2897.lt
  have l3000 : q2144 < v2879.heap.size := b2898.lt
  have l3001 : q2196 < v2879.heap.size := b2899.lt
  have l3002 : q2255 < v2879.heap.size := b2900.lt
  have l3003 : q2321 < v2879.heap.size := b2901.lt
  have l3004 : q2394 < v2879.heap.size := b2902.lt
  have l3005 : q2474 < v2879.heap.size := b2903.lt
  have l3006 : q2561 < v2879.heap.size := b2904.lt
  have l3007 : q2655 < v2879.heap.size := b2905.lt
  have l3008 : q2850 < v2879.heap.size := b2906.lt
  have l3009 : q2964 < v2879.heap.size := b2983.lt
  have b3010 : Bx v2994 q2026 29 #[.bool na0, .slice A0 n0 c0, .bool nb0, .slice B0 m0 d0] := (E2994.far q2026 b2894.lt (by simp)).trans b2894
  have b3011 : Bx v2994 q2032 29 #[.bool na1, .slice A1 n1 c1, .bool nb1, .slice B1 m1 d1] := (E2994.far q2032 b2895.lt (by simp)).trans b2895
  have b3012 : Bx v2994 q2039 29 #[.bool na2, .slice A2 n2 c2, .bool nb2, .slice B2 m2 d2] := (E2994.far q2039 b2896.lt (by simp)).trans b2896
  have b3013 : Bx v2994 q2099 t2107 #[.bool x2109, .slice A2110 m2111 c2112, .bool x2113, .slice A2114 m2115 c2116] := (E2994.far q2099 b2897.lt (by simp)).trans b2897
  have b3014 : Bx v2994 q2144 t2153 #[.bool x2155, .slice A2156 m2157 c2158, .bool x2159, .slice A2160 m2161 c2162] := (E2994.far q2144 b2898.lt (by simp)).trans b2898
  have b3015 : Bx v2994 q2196 t2206 #[.bool x2208, .slice A2209 m2210 c2211, .bool x2212, .slice A2213 m2214 c2215] := (E2994.far q2196 b2899.lt (by simp)).trans b2899
  have b3016 : Bx v2994 q2255 t2266 #[.bool x2268, .slice A2269 m2270 c2271, .bool x2272, .slice A2273 m2274 c2275] := (E2994.far q2255 b2900.lt (by simp)).trans b2900
  have b3017 : Bx v2994 q2321 t2333 #[.bool x2335, .slice A2336 m2337 c2338, .bool x2339, .slice A2340 m2341 c2342] := (E2994.far q2321 b2901.lt (by simp)).trans b2901
  have b3018 : Bx v2994 q2394 t2407 #[.bool x2409, .slice A2410 m2411 c2412, .bool x2413, .slice A2414 m2415 c2416] := (E2994.far q2394 b2902.lt (by simp)).trans b2902
  have b3019 : Bx v2994 q2474 t2488 #[.bool x2490, .slice A2491 m2492 c2493, .bool x2494, .slice A2495 m2496 c2497] := (E2994.far q2474 b2903.lt (by simp)).trans b2903
  have b3020 : Bx v2994 q2561 t2576 #[.bool x2578, .slice A2579 m2580 c2581, .bool x2582, .slice A2583 m2584 c2585] := (E2994.far q2561 b2904.lt (by simp)).trans b2904
  have b3021 : Bx v2994 q2655 t2671 #[.bool x2673, .slice A2674 m2675 c2676, .bool x2677, .slice A2678 m2679 c2680] := (E2994.far q2655 b2905.lt (by simp)).trans b2905
  have b3022 : Bx v2994 q2850 t2867 #[.bool x2869, .slice A2870 m2871 c2872, .bool x2873, .slice A2874 m2875 c2876] := (E2994.far q2850 b2906.lt (by simp)).trans b2906
  have b3023 : Bx v2994 q2964 t2982 #[.bool x2984, .slice A2985 m2986 c2987, .bool x2988, .slice A2989 m2990 c2991] := (E2994.far q2964 b2983.lt (by simp)).trans b2983
  have f3025 := (pair_mono f2908 E2994.mono)
  have f3057 := (pair_mono f2940 E2994.mono)
  have f3079 := (pair_mono f2993 E2994.mono)
  have e3087 : g2994 7 = (.bool false) := E2994.facts 7 (by decide)
  refine then_normal ?_
  refine wp_cond_false e3087 ?_
  refine wp_skip ?_
  refine then_normal ?_
  refine wp_seq ?_
  refine wp_seq ?_
  have HB : w.heap.size ≤ v2994.heap.size := T2995.size
  refine wp_plan_seq [.val (.is (.pointer (some ⟨q2032, 0, none⟩))), .val (.az 1048576 p1), .val (.is (.int .i64 p1.sign)), .val (.is (.bool false))] [] [] w.heap.size (by kernel_rfl) (by kernel_rfl) trivial HB ?_ ?_
  · exact ⟨fun s v h => does_val rfl rfl (x_fld_r0 ((h.same 4 rfl).trans p2033)) rfl,
      fun s v h => does_val rfl rfl (x_load_r0 (h.dep 0 rfl) ((h.far q2032 b3011.lt (by simp)).trans b3011)) (pair_fst (pair_mono f3025 h.mono)),
      fun s v h => does_call rfl rfl (x_call1 Try.call14) (r2sign_k (h.dep 1 rfl) (by omega)),
      fun s v h => does_val rfl rfl (x_eql_int (h.dep 2 rfl) rfl) (congrArg Value.bool dn), trivial⟩
  intro g3088 ts v3088 hts E3088
  simp only [fillL, Nat.reduceAdd, List.setIfInBounds_toArray, List.set_cons_zero, List.set_cons_succ] at hts
  subst hts
  have T3089 : Below w.heap.size w v3088 := T2995.trans E3088.below
  have l3090 : q2026 < v2994.heap.size := b3010.lt
  have l3091 : q2032 < v2994.heap.size := b3011.lt
  have l3092 : q2039 < v2994.heap.size := b3012.lt
  have l3093 : q2099 < v2994.heap.size := b3013.lt
  have l3094 : q2144 < v2994.heap.size := b3014.lt
  have l3095 : q2196 < v2994.heap.size := b3015.lt
  have l3096 : q2255 < v2994.heap.size := b3016.lt
  have l3097 : q2321 < v2994.heap.size := b3017.lt
  have l3098 : q2394 < v2994.heap.size := b3018.lt
  have l3099 : q2474 < v2994.heap.size := b3019.lt
  have l3100 : q2561 < v2994.heap.size := b3020.lt
  have l3101 : q2655 < v2994.heap.size := b3021.lt
  have l3102 : q2850 < v2994.heap.size := b3022.lt
  have l3103 : q2964 < v2994.heap.size := b3023.lt
  have b3104 : Bx v3088 q2026 29 #[.bool na0, .slice A0 n0 c0, .bool nb0, .slice B0 m0 d0] := (E3088.far q2026 b3010.lt (by simp)).trans b3010
  have b3105 : Bx v3088 q2032 29 #[.bool na1, .slice A1 n1 c1, .bool nb1, .slice B1 m1 d1] := (E3088.far q2032 b3011.lt (by simp)).trans b3011
  have b3106 : Bx v3088 q2039 29 #[.bool na2, .slice A2 n2 c2, .bool nb2, .slice B2 m2 d2] := (E3088.far q2039 b3012.lt (by simp)).trans b3012
  have b3107 : Bx v3088 q2099 t2107 #[.bool x2109, .slice A2110 m2111 c2112, .bool x2113, .slice A2114 m2115 c2116] := (E3088.far q2099 b3013.lt (by simp)).trans b3013
  have b3108 : Bx v3088 q2144 t2153 #[.bool x2155, .slice A2156 m2157 c2158, .bool x2159, .slice A2160 m2161 c2162] := (E3088.far q2144 b3014.lt (by simp)).trans b3014
  have b3109 : Bx v3088 q2196 t2206 #[.bool x2208, .slice A2209 m2210 c2211, .bool x2212, .slice A2213 m2214 c2215] := (E3088.far q2196 b3015.lt (by simp)).trans b3015
  have b3110 : Bx v3088 q2255 t2266 #[.bool x2268, .slice A2269 m2270 c2271, .bool x2272, .slice A2273 m2274 c2275] := (E3088.far q2255 b3016.lt (by simp)).trans b3016
  have b3111 : Bx v3088 q2321 t2333 #[.bool x2335, .slice A2336 m2337 c2338, .bool x2339, .slice A2340 m2341 c2342] := (E3088.far q2321 b3017.lt (by simp)).trans b3017
  have b3112 : Bx v3088 q2394 t2407 #[.bool x2409, .slice A2410 m2411 c2412, .bool x2413, .slice A2414 m2415 c2416] := (E3088.far q2394 b3018.lt (by simp)).trans b3018
  have b3113 : Bx v3088 q2474 t2488 #[.bool x2490, .slice A2491 m2492 c2493, .bool x2494, .slice A2495 m2496 c2497] := (E3088.far q2474 b3019.lt (by simp)).trans b3019
  have b3114 : Bx v3088 q2561 t2576 #[.bool x2578, .slice A2579 m2580 c2581, .bool x2582, .slice A2583 m2584 c2585] := (E3088.far q2561 b3020.lt (by simp)).trans b3020
  have b3115 : Bx v3088 q2655 t2671 #[.bool x2673, .slice A2674 m2675 c2676, .bool x2677, .slice A2678 m2679 c2680] := (E3088.far q2655 b3021.lt (by simp)).trans b3021
  have b3116 : Bx v3088 q2850 t2867 #[.bool x2869, .slice A2870 m2871 c2872, .bool x2873, .slice A2874 m2875 c2876] := (E3088.far q2850 b3022.lt (by simp)).trans b3022
  have b3117 : Bx v3088 q2964 t2982 #[.bool x2984, .slice A2985 m2986 c2987, .bool x2988, .slice A2989 m2990 c2991] := (E3088.far q2964 b3023.lt (by simp)).trans b3023
  have f3119 := (pair_mono f3025 E3088.mono)
  have f3151 := (pair_mono f3057 E3088.mono)
  have f3173 := (pair_mono f3079 E3088.mono)
  have e3178 : g3088 3 = (.bool false) := E3088.facts 3 (by decide)
  refine then_normal ?_
  refine wp_cond_false e3178 ?_
  refine wp_skip ?_
  refine then_normal ?_
  refine wp_seq ?_
  have HB : w.heap.size ≤ v3088.heap.size := T3089.size
  refine wp_plan_seq [.val (.pair (.cz U7_) (.cz W7_)), .val (.pair (.az 1048576 p1) (.az 1048576 q1)), .val (.tup2 (.pair (.cz Uo_) (.cz Wo_)) (.is (.int .i64 0))), .val (.tup2 (.pair (.cz Uo_) (.cz Wo_)) (.is (.int .i64 0))), .val (.pair (.cz Uo_) (.cz Wo_)), .val (.is (.int .i64 0)), .new 4 none, .put 29 146, .val (.is (.int .i64 0))] [] [] w.heap.size (by kernel_rfl) (by kernel_rfl) trivial HB ?_ ?_
  · exact ⟨fun s v h => does_val rfl rfl (x_load_r ((h.same 19 rfl).trans p2475) ((h.far q2474 b3113.lt (by simp)).trans b3113)) (pair_mono f3151 h.mono),
      fun s v h => does_val rfl rfl (x_load_r ((h.same 4 rfl).trans p2033) ((h.far q2032 b3105.lt (by simp)).trans b3105)) (pair_mono f3119 h.mono),
      fun s v h => does_call rfl rfl (x_call2 Try.call28) ((ren2 u11 v11 (qdiv_k (rz_cc (N := 3000000) (h.dep 0 rfl) LU7_ LW7_) (h.dep 1 rfl) (by omega) (by omega) ZW7_ hn1 (dv_of PW7_ hp1) dn))),
      fun s v h => does_val rfl rfl (x_move) (h.dep 2 rfl),
      fun s v h => by obtain ⟨r0, r1, e, f0, f1⟩ := tup2_at (h.dep 3 rfl); exact does_val rfl rfl (x_ext e rfl) f0,
      fun s v h => by obtain ⟨r0, r1, e, f0, f1⟩ := tup2_at (h.dep 3 rfl); exact does_val rfl rfl (x_ext e rfl) f1,
      fun s v h => does_new rfl rfl x_alloc_r (okr _ _ _ _ _ _ _ _) rfl (.inl rfl),
      fun s v h => by obtain ⟨q, e1, e2, e3⟩ := new_at (h.dep 6 rfl); exact does_put_r rfl rfl e1 (pair_shape (num_cz _) (num_cz _) (h.dep 4 rfl)) e3 (Nat.le_trans HB e2),
      fun s v h => does_val rfl rfl (x_assign) (h.dep 5 rfl), trivial⟩
  intro g3179 ts v3179 hts E3179
  simp only [fillL, Nat.reduceAdd, List.setIfInBounds_toArray, List.set_cons_zero, List.set_cons_succ] at hts
  subst hts
  have T3180 : Below w.heap.size w v3179 := T3089.trans E3179.below
  have l3181 : q2026 < v3088.heap.size := b3104.lt
  have l3182 : q2032 < v3088.heap.size := b3105.lt
  have l3183 : q2039 < v3088.heap.size := b3106.lt
  have l3184 : q2099 < v3088.heap.size := b3107.lt
  have l3185 : q2144 < v3088.heap.size := b3108.lt
  have l3186 : q2196 < v3088.heap.size := b3109.lt
  have l3187 : q2255 < v3088.heap.size := b3110.lt
  have l3188 : q2321 < v3088.heap.size := b3111.lt
  have l3189 : q2394 < v3088.heap.size := b3112.lt
  have l3190 : q2474 < v3088.heap.size := b3113.lt
  have l3191 : q2561 < v3088.heap.size := b3114.lt
  have l3192 : q2655 < v3088.heap.size := b3115.lt
  have l3193 : q2850 < v3088.heap.size := b3116.lt
  have l3194 : q2964 < v3088.heap.size := b3117.lt
  have b3195 : Bx v3179 q2026 29 #[.bool na0, .slice A0 n0 c0, .bool nb0, .slice B0 m0 d0] := (E3179.far q2026 b3104.lt (by simp)).trans b3104
  have b3196 : Bx v3179 q2032 29 #[.bool na1, .slice A1 n1 c1, .bool nb1, .slice B1 m1 d1] := (E3179.far q2032 b3105.lt (by simp)).trans b3105
  have b3197 : Bx v3179 q2039 29 #[.bool na2, .slice A2 n2 c2, .bool nb2, .slice B2 m2 d2] := (E3179.far q2039 b3106.lt (by simp)).trans b3106
  have b3198 : Bx v3179 q2099 t2107 #[.bool x2109, .slice A2110 m2111 c2112, .bool x2113, .slice A2114 m2115 c2116] := (E3179.far q2099 b3107.lt (by simp)).trans b3107
  have b3199 : Bx v3179 q2144 t2153 #[.bool x2155, .slice A2156 m2157 c2158, .bool x2159, .slice A2160 m2161 c2162] := (E3179.far q2144 b3108.lt (by simp)).trans b3108
  have b3200 : Bx v3179 q2196 t2206 #[.bool x2208, .slice A2209 m2210 c2211, .bool x2212, .slice A2213 m2214 c2215] := (E3179.far q2196 b3109.lt (by simp)).trans b3109
  have b3201 : Bx v3179 q2255 t2266 #[.bool x2268, .slice A2269 m2270 c2271, .bool x2272, .slice A2273 m2274 c2275] := (E3179.far q2255 b3110.lt (by simp)).trans b3110
  have b3202 : Bx v3179 q2321 t2333 #[.bool x2335, .slice A2336 m2337 c2338, .bool x2339, .slice A2340 m2341 c2342] := (E3179.far q2321 b3111.lt (by simp)).trans b3111
  have b3203 : Bx v3179 q2394 t2407 #[.bool x2409, .slice A2410 m2411 c2412, .bool x2413, .slice A2414 m2415 c2416] := (E3179.far q2394 b3112.lt (by simp)).trans b3112
  have b3204 : Bx v3179 q2474 t2488 #[.bool x2490, .slice A2491 m2492 c2493, .bool x2494, .slice A2495 m2496 c2497] := (E3179.far q2474 b3113.lt (by simp)).trans b3113
  have b3205 : Bx v3179 q2561 t2576 #[.bool x2578, .slice A2579 m2580 c2581, .bool x2582, .slice A2583 m2584 c2585] := (E3179.far q2561 b3114.lt (by simp)).trans b3114
  have b3206 : Bx v3179 q2655 t2671 #[.bool x2673, .slice A2674 m2675 c2676, .bool x2677, .slice A2678 m2679 c2680] := (E3179.far q2655 b3115.lt (by simp)).trans b3115
  have b3207 : Bx v3179 q2850 t2867 #[.bool x2869, .slice A2870 m2871 c2872, .bool x2873, .slice A2874 m2875 c2876] := (E3179.far q2850 b3116.lt (by simp)).trans b3116
  have b3208 : Bx v3179 q2964 t2982 #[.bool x2984, .slice A2985 m2986 c2987, .bool x2988, .slice A2989 m2990 c2991] := (E3179.far q2964 b3117.lt (by simp)).trans b3117
  have f3264 := (pair_mono f3173 E3179.mono)
  have f3270 : ((.pair (.cz Uo_) (.cz Wo_)) : Known).p v3179 (g3179 4) := E3179.facts 4 (by decide)
  have e3272 : g3179 8 = (.int .i64 0) := E3179.facts 8 (by decide)
  obtain ⟨q3273, p3274, l3275, o3276⟩ : ∃ q, g3179 6 = .pointer (some ⟨q, 0, none⟩) ∧ v3088.heap.size ≤ q ∧ OkB v3179 q 4 := E3179.facts 6 (by decide)
  have h3277 : w.heap.size ≤ q3273 := Nat.le_trans HB l3275
  obtain ⟨t3292, x3294, A3295, m3296, c3297, x3298, A3299, m3300, c3301, e3302, b3293⟩ := put_info4 (E3179.facts 7 (by decide)) p3274 (pair_shape (num_cz _) (num_cz _) f3270)
  have f3303 : ((.pair (.cz Uo_) (.cz Wo_)) : Known).p v3179 (.agg #[.bool x3294, .slice A3295 m3296 c3297, .bool x3298, .slice A3299 m3300 c3301]) := pair_at f3270 e3302.symm
  refine then_normal ?_
  refine wp_seq ?_
  have HB : w.heap.size ≤ v3179.heap.size := T3180.size
  refine wp_plan_seq [.val (.is (.int .i64 0)), .val (.is (.bool true)), .val (.is (.bool true)), .val (.pair (.cz Uo_) (.cz Wo_)), .val (.pair (.cz Uo_) (.cz Wo_)), .val (.is (.bool true)), .val (.is (.bool true)), .val (.is (.bool true))] [] [] w.heap.size (by kernel_rfl) (by kernel_rfl) trivial HB ?_ ?_
  · exact ⟨fun s v h => does_val rfl rfl (x_move) ((h.same 30 rfl).trans e3272),
      fun s v h => does_val rfl rfl (x_eql_err (h.dep 0 rfl) rfl) rfl,
      fun s v h => does_val rfl rfl (x_move) (h.dep 1 rfl),
      fun s v h => does_val rfl (wanted_by (b := true) (want := true) rfl rfl (h.dep 2 rfl)) (x_load_r ((h.same 29 rfl).trans p3274) ((h.far q3273 b3293.lt (by simp)).trans b3293)) (pair_mono f3303 h.mono),
      fun s v h => does_val rfl (wanted_by (b := true) (want := true) rfl rfl (h.dep 2 rfl)) (x_load_r ((h.same 27 rfl).trans p2965) ((h.far q2964 b3208.lt (by simp)).trans b3208)) (pair_mono f3264 h.mono),
      fun s v h => does_call rfl (wanted_by (b := true) (want := true) rfl rfl (h.dep 2 rfl)) (x_call2 Try.call15) (lsame_k (h.dep 3 rfl) (h.dep 4 rfl) rfl rfl),
      fun s v h => does_val rfl rfl (x_pick (h.dep 2 rfl)) (h.dep 5 rfl),
      fun s v h => does_val rfl rfl (x_assign) (h.dep 6 rfl), trivial⟩
  intro g3304 ts v3304 hts E3304
  simp only [fillL, Nat.reduceAdd, List.setIfInBounds_toArray, List.set_cons_zero, List.set_cons_succ] at hts
  subst hts
  have T3305 : Below w.heap.size w v3304 := T3180.trans E3304.below
  have l3306 : q2026 < v3179.heap.size := b3195.lt
  have l3307 : q2032 < v3179.heap.size := b3196.lt
  have l3308 : q2039 < v3179.heap.size := b3197.lt
  have l3309 : q2099 < v3179.heap.size := b3198.lt
  have l3310 : q2144 < v3179.heap.size := b3199.lt
  have l3311 : q2196 < v3179.heap.size := b3200.lt
  have l3312 : q2255 < v3179.heap.size := b3201.lt
  have l3313 : q2321 < v3179.heap.size := b3202.lt
  have l3314 : q2394 < v3179.heap.size := b3203.lt
  have l3315 : q2474 < v3179.heap.size := b3204.lt
  have l3316 : q2561 < v3179.heap.size := b3205.lt
  have l3317 : q2655 < v3179.heap.size := b3206.lt
  have l3318 : q2850 < v3179.heap.size := b3207.lt
  have l3319 : q2964 < v3179.heap.size := b3208.lt
  have l3320 : q3273 < v3179.heap.size := b3293.lt
  have e3406 : g3304 7 = (.bool true) := E3304.facts 7 (by decide)
  refine then_normal ?_
  refine wp_ret ?_
  exact bodyPost_ret (results_tmp (t := 6) rfl _ _ _) rfl ⟨_, rfl, e3406, T3305⟩

set_option maxHeartbeats 4000000 in
set_option maxRecDepth 8000 in
theorem rf_z {w : World} {x : Value} {p q : Int} (h0 : Rz 1048576 w x p q) {y : Value} {p1 q1 : Int} (h1 : Rz 1048576 w y p1 q1) {z : Value} {p2 q2 : Int} (h2 : Rz 1048576 w z p2 q2) (hp : 0 < q) (hp1 : 0 < q1) (hp2 : 0 < q2) (db : (decide (0 < q.sign) && decide (0 < q1.sign)) = true) (dk : decide (0 < q2.sign) = true) {U1_ W1_ U3_ W3_ U4_ W4_ U6_ W6_ U7_ W7_ U8_ W8_ Uo_ Wo_ : Int} (u0 : rn ((p * q1) + (p1 * q)) (q * q1) = U1_) (v0 : rd ((p * q1) + (p1 * q)) (q * q1) = W1_) (u1 : rn ((p1 * q) + (p * q1)) (q1 * q) = U1_) (v1 : rd ((p1 * q) + (p * q1)) (q1 * q) = W1_) (u2 : rn ((p1 * q2) + (p2 * q1)) (q1 * q2) = U3_) (v2 : rd ((p1 * q2) + (p2 * q1)) (q1 * q2) = W3_) (u3 : rn ((U1_ * q2) + (p2 * W1_)) (W1_ * q2) = U4_) (v3 : rd ((U1_ * q2) + (p2 * W1_)) (W1_ * q2) = W4_) (u4 : rn ((p * W3_) + (U3_ * q)) (q * W3_) = U4_) (v4 : rd ((p * W3_) + (U3_ * q)) (q * W3_) = W4_) (u5 : rn (p * U3_) (q * W3_) = U6_) (v5 : rd (p * U3_) (q * W3_) = W6_) (u6 : rn (p * p1) (q * q1) = U7_) (v6 : rd (p * p1) (q * q1) = W7_) (u7 : rn (p * p2) (q * q2) = U8_) (v7 : rd (p * p2) (q * q2) = W8_) (u8 : rn ((U7_ * W8_) + (U8_ * W7_)) (W7_ * W8_) = U6_) (v8 : rd ((U7_ * W8_) + (U8_ * W7_)) (W7_ * W8_) = W6_) (u9 : rn ((U1_ * q1) - (p1 * W1_)) (W1_ * q1) = Uo_) (v9 : rd ((U1_ * q1) - (p1 * W1_)) (W1_ * q1) = Wo_) (u10 : rn p q = Uo_) (v10 : rd p q = Wo_) (dn : (p1.sign == 0) = true)  : Calls Try.prog 10 #[x, y, z] w (Ret (.is (.bool true)) w) := by
  obtain ⟨na0, A0, n0, c0, nb0, B0, m0, d0, e0r, hx0, hy0⟩ := Rz.parts h0
  subst e0r
  have la0 := hx0.len
  have lb0 := hy0.len
  obtain ⟨na1, A1, n1, c1, nb1, B1, m1, d1, e1r, hx1, hy1⟩ := Rz.parts h1
  subst e1r
  have la1 := hx1.len
  have lb1 := hy1.len
  obtain ⟨na2, A2, n2, c2, nb2, B2, m2, d2, e2r, hx2, hy2⟩ := Rz.parts h2
  subst e2r
  have la2 := hx2.len
  have lb2 := hy2.len
  have hq0 : q ≠ 0 := by omega
  have hq1 : q1 ≠ 0 := by omega
  have hq2 : q2 ≠ 0 := by omega
  have LU1_ : (digs U1_.natAbs).length ≤ 3000000 := by rw [← u0]; exact Nat.le_trans (rn_len (Int.mul_ne_zero hq0 hq1) (len_add' (n := 2097153) (len_mul la0 lb1) (len_mul la1 lb0) (by omega) (by omega))) (by omega)
  have LW1_ : (digs W1_.natAbs).length ≤ 3000000 := by rw [← v0]; exact Nat.le_trans (rd_len (Int.mul_ne_zero hq0 hq1) (len_mul lb0 lb1)) (by omega)
  have PW1_ : 0 < W1_ := by rw [← v0]; exact rd_pos (Int.mul_ne_zero hq0 hq1)
  have ZW1_ : W1_ ≠ 0 := by omega
  have LU3_ : (digs U3_.natAbs).length ≤ 3000000 := by rw [← u2]; exact Nat.le_trans (rn_len (Int.mul_ne_zero hq1 hq2) (len_add' (n := 2097153) (len_mul la1 lb2) (len_mul la2 lb1) (by omega) (by omega))) (by omega)
  have LW3_ : (digs W3_.natAbs).length ≤ 3000000 := by rw [← v2]; exact Nat.le_trans (rd_len (Int.mul_ne_zero hq1 hq2) (len_mul lb1 lb2)) (by omega)
  have PW3_ : 0 < W3_ := by rw [← v2]; exact rd_pos (Int.mul_ne_zero hq1 hq2)
  have ZW3_ : W3_ ≠ 0 := by omega
  have LU4_ : (digs U4_.natAbs).length ≤ 10000000 := by rw [← u3]; exact Nat.le_trans (rn_len (Int.mul_ne_zero ZW1_ hq2) (len_add' (n := 4048577) (len_mul LU1_ lb2) (len_mul la2 LW1_) (by omega) (by omega))) (by omega)
  have LW4_ : (digs W4_.natAbs).length ≤ 10000000 := by rw [← v3]; exact Nat.le_trans (rd_len (Int.mul_ne_zero ZW1_ hq2) (len_mul LW1_ lb2)) (by omega)
  have PW4_ : 0 < W4_ := by rw [← v3]; exact rd_pos (Int.mul_ne_zero ZW1_ hq2)
  have ZW4_ : W4_ ≠ 0 := by omega
  have LU6_ : (digs U6_.natAbs).length ≤ 10000000 := by rw [← u5]; exact Nat.le_trans (rn_len (Int.mul_ne_zero hq0 ZW3_) (len_mul la0 LU3_)) (by omega)
  have LW6_ : (digs W6_.natAbs).length ≤ 10000000 := by rw [← v5]; exact Nat.le_trans (rd_len (Int.mul_ne_zero hq0 ZW3_) (len_mul lb0 LW3_)) (by omega)
  have PW6_ : 0 < W6_ := by rw [← v5]; exact rd_pos (Int.mul_ne_zero hq0 ZW3_)
  have ZW6_ : W6_ ≠ 0 := by omega
  have LU7_ : (digs U7_.natAbs).length ≤ 3000000 := by rw [← u6]; exact Nat.le_trans (rn_len (Int.mul_ne_zero hq0 hq1) (len_mul la0 la1)) (by omega)
  have LW7_ : (digs W7_.natAbs).length ≤ 3000000 := by rw [← v6]; exact Nat.le_trans (rd_len (Int.mul_ne_zero hq0 hq1) (len_mul lb0 lb1)) (by omega)
  have PW7_ : 0 < W7_ := by rw [← v6]; exact rd_pos (Int.mul_ne_zero hq0 hq1)
  have ZW7_ : W7_ ≠ 0 := by omega
  have LU8_ : (digs U8_.natAbs).length ≤ 3000000 := by rw [← u7]; exact Nat.le_trans (rn_len (Int.mul_ne_zero hq0 hq2) (len_mul la0 la2)) (by omega)
  have LW8_ : (digs W8_.natAbs).length ≤ 3000000 := by rw [← v7]; exact Nat.le_trans (rd_len (Int.mul_ne_zero hq0 hq2) (len_mul lb0 lb2)) (by omega)
  have PW8_ : 0 < W8_ := by rw [← v7]; exact rd_pos (Int.mul_ne_zero hq0 hq2)
  have ZW8_ : W8_ ≠ 0 := by omega
  have LUo_ : (digs Uo_.natAbs).length ≤ 1048576 := by rw [← u10]; exact rn_len hq0 la0
  have LWo_ : (digs Wo_.natAbs).length ≤ 1048576 := by rw [← v10]; exact rd_len hq0 lb0
  have PWo_ : 0 < Wo_ := by rw [← v10]; exact rd_pos hq0
  have ZWo_ : Wo_ ≠ 0 := by omega
  have T0 : Below w.heap.size w w := Below.refl _ _
  go_enter Try.func10, Try.ntmps10
  refine wp_seq ?_
  have HB : w.heap.size ≤ w.heap.size := T0.size
  refine wp_plan_seq [.new 4 (some (29, #[.bool na0, .slice A0 n0 c0, .bool nb0, .slice B0 m0 d0])), .new 4 (some (29, #[.bool na1, .slice A1 n1 c1, .bool nb1, .slice B1 m1 d1])), .new 4 (some (29, #[.bool na2, .slice A2 n2 c2, .bool nb2, .slice B2 m2 d2])), .val (.is (.bool false))] [] [] w.heap.size (by kernel_rfl) (by kernel_rfl) trivial HB ?_ ?_
  · exact ⟨fun s v h => does_new rfl rfl (x_box_r (h.same 0 rfl)) (okr _ _ _ _ _ _ _ _) rfl (.inr rfl),
      fun s v h => does_new rfl rfl (x_box_r (h.same 1 rfl)) (okr _ _ _ _ _ _ _ _) rfl (.inr rfl),
      fun s v h => does_new rfl rfl (x_box_r (h.same 2 rfl)) (okr _ _ _ _ _ _ _ _) rfl (.inr rfl),
      fun s v h => does_val rfl rfl (x_assign) rfl, trivial⟩
  intro g3407 ts v3407 hts E3407
  simp only [fillL, Nat.reduceAdd, List.setIfInBounds_toArray, List.set_cons_zero, List.set_cons_succ] at hts
  subst hts
  have T3408 : Below w.heap.size w v3407 := T0.trans E3407.below
  have f3409 := (pair_mono h0 E3407.mono)
  have f3410 := (pair_mono h1 E3407.mono)
  have f3411 := (pair_mono h2 E3407.mono)
  obtain ⟨q3413, p3414, l3415, o3416, b3417⟩ : ∃ q, g3407 0 = .pointer (some ⟨q, 0, none⟩) ∧ w.heap.size ≤ q ∧ OkB v3407 q 4 ∧ Bx v3407 q 29 #[.bool na0, .slice A0 n0 c0, .bool nb0, .slice B0 m0 d0] := E3407.facts 0 (by decide)
  have h3418 : w.heap.size ≤ q3413 := Nat.le_trans HB l3415
  obtain ⟨q3419, p3420, l3421, o3422, b3423⟩ : ∃ q, g3407 1 = .pointer (some ⟨q, 0, none⟩) ∧ w.heap.size ≤ q ∧ OkB v3407 q 4 ∧ Bx v3407 q 29 #[.bool na1, .slice A1 n1 c1, .bool nb1, .slice B1 m1 d1] := E3407.facts 1 (by decide)
  have h3424 : w.heap.size ≤ q3419 := Nat.le_trans HB l3421
  obtain ⟨q3426, p3427, l3428, o3429, b3430⟩ : ∃ q, g3407 2 = .pointer (some ⟨q, 0, none⟩) ∧ w.heap.size ≤ q ∧ OkB v3407 q 4 ∧ Bx v3407 q 29 #[.bool na2, .slice A2 n2 c2, .bool nb2, .slice B2 m2 d2] := E3407.facts 2 (by decide)
  have h3431 : w.heap.size ≤ q3426 := Nat.le_trans HB l3428
  refine then_normal ?_
  refine wp_seq ?_
  refine wp_seq ?_
  have HB : w.heap.size ≤ v3407.heap.size := T3408.size
  refine wp_plan_seq [.val (.is (.bool true)), .val (.is (.bool false))] [] [] w.heap.size (by kernel_rfl) (by kernel_rfl) trivial HB ?_ ?_
  · exact ⟨fun s v h => does_call rfl rfl (x_call0 Try.call16) (lawake_k),
      fun s v h => does_val rfl rfl (x_not (h.dep 0 rfl)) rfl, trivial⟩
  intro g3434 ts v3434 hts E3434
  simp only [fillL, Nat.reduceAdd, List.setIfInBounds_toArray, List.set_cons_zero, List.set_cons_succ] at hts
  subst hts
  have T3435 : Below w.heap.size w v3434 := T3408.trans E3434.below
  have l3436 : q3413 < v3407.heap.size := b3417.lt
  have l3437 : q3419 < v3407.heap.size := b3423.lt
  have l3438 : q3426 < v3407.heap.size := b3430.lt
  have b3439 : Bx v3434 q3413 29 #[.bool na0, .slice A0 n0 c0, .bool nb0, .slice B0 m0 d0] := (E3434.far q3413 b3417.lt (by simp)).trans b3417
  have b3440 : Bx v3434 q3419 29 #[.bool na1, .slice A1 n1 c1, .bool nb1, .slice B1 m1 d1] := (E3434.far q3419 b3423.lt (by simp)).trans b3423
  have b3441 : Bx v3434 q3426 29 #[.bool na2, .slice A2 n2 c2, .bool nb2, .slice B2 m2 d2] := (E3434.far q3426 b3430.lt (by simp)).trans b3430
  have f3442 := (pair_mono f3409 E3434.mono)
  have f3443 := (pair_mono f3410 E3434.mono)
  have f3444 := (pair_mono f3411 E3434.mono)
  have e3446 : g3434 1 = (.bool false) := E3434.facts 1 (by decide)
  refine then_normal ?_
  refine wp_cond_false e3446 ?_
  refine wp_skip ?_
  refine then_normal ?_
  refine wp_seq ?_
  refine wp_seq ?_
  have HB : w.heap.size ≤ v3434.heap.size := T3435.size
  refine wp_plan_seq [.val (.pair (.az 1048576 p) (.az 1048576 q)), .val (.pair (.az 1048576 p1) (.az 1048576 q1)), .val (.is (.bool true)), .val (.is (.bool false)), .val (.is (.bool false)), .val (.pair (.az 1048576 p2) (.az 1048576 q2)), .val (.is (.bool true)), .val (.is (.bool false)), .val (.is (.bool false))] [] [] w.heap.size (by kernel_rfl) (by kernel_rfl) trivial HB ?_ ?_
  · exact ⟨fun s v h => does_val rfl rfl (x_load_r ((h.same 3 rfl).trans p3414) ((h.far q3413 b3439.lt (by simp)).trans b3439)) (pair_mono f3442 h.mono),
      fun s v h => does_val rfl rfl (x_load_r ((h.same 4 rfl).trans p3420) ((h.far q3419 b3440.lt (by simp)).trans b3440)) (pair_mono f3443 h.mono),
      fun s v h => does_call rfl rfl (x_call2 Try.call21) (ret_lit db (lboth_k (h.dep 0 rfl) (h.dep 1 rfl) (by omega) (by omega))),
      fun s v h => does_val rfl rfl (x_not (h.dep 2 rfl)) rfl,
      fun s v h => does_val rfl rfl (x_move) (h.dep 3 rfl),
      fun s v h => does_val rfl (wanted_by (b := false) (want := false) rfl rfl (h.dep 4 rfl)) (x_load_r ((h.same 5 rfl).trans p3427) ((h.far q3426 b3441.lt (by simp)).trans b3441)) (pair_mono f3444 h.mono),
      fun s v h => does_call rfl (wanted_by (b := false) (want := false) rfl rfl (h.dep 4 rfl)) (x_call1 Try.call31) (ret_lit dk (lok_k (h.dep 5 rfl) (by omega))),
      fun s v h => does_val rfl (wanted_by (b := false) (want := false) rfl rfl (h.dep 4 rfl)) (x_not (h.dep 6 rfl)) rfl,
      fun s v h => does_val rfl rfl (x_pick (h.dep 4 rfl)) (h.dep 7 rfl), trivial⟩
  intro g3447 ts v3447 hts E3447
  simp only [fillL, Nat.reduceAdd, List.setIfInBounds_toArray, List.set_cons_zero, List.set_cons_succ] at hts
  subst hts
  have T3448 : Below w.heap.size w v3447 := T3435.trans E3447.below
  have l3449 : q3413 < v3434.heap.size := b3439.lt
  have l3450 : q3419 < v3434.heap.size := b3440.lt
  have l3451 : q3426 < v3434.heap.size := b3441.lt
  have b3452 : Bx v3447 q3413 29 #[.bool na0, .slice A0 n0 c0, .bool nb0, .slice B0 m0 d0] := (E3447.far q3413 b3439.lt (by simp)).trans b3439
  have b3453 : Bx v3447 q3419 29 #[.bool na1, .slice A1 n1 c1, .bool nb1, .slice B1 m1 d1] := (E3447.far q3419 b3440.lt (by simp)).trans b3440
  have b3454 : Bx v3447 q3426 29 #[.bool na2, .slice A2 n2 c2, .bool nb2, .slice B2 m2 d2] := (E3447.far q3426 b3441.lt (by simp)).trans b3441
  have f3455 := (pair_mono f3442 E3447.mono)
  have f3456 := (pair_mono f3443 E3447.mono)
  have f3457 := (pair_mono f3444 E3447.mono)
  have e3466 : g3447 8 = (.bool false) := E3447.facts 8 (by decide)
  refine then_normal ?_
  refine wp_cond_false e3466 ?_
  refine wp_skip ?_
  refine then_normal ?_
  refine wp_seq ?_
  have HB : w.heap.size ≤ v3447.heap.size := T3448.size
  refine wp_plan_seq [.val (.pair (.az 1048576 p) (.az 1048576 q)), .val (.pair (.az 1048576 p1) (.az 1048576 q1)), .val (.tup2 (.pair (.cz U1_) (.cz W1_)) (.is (.int .i64 0))), .val (.tup2 (.pair (.cz U1_) (.cz W1_)) (.is (.int .i64 0))), .val (.pair (.cz U1_) (.cz W1_)), .val (.is (.int .i64 0)), .new 4 none, .put 7 46, .val (.is (.int .i64 0))] [] [] w.heap.size (by kernel_rfl) (by kernel_rfl) trivial HB ?_ ?_
  · exact ⟨fun s v h => does_val rfl rfl (x_load_r ((h.same 3 rfl).trans p3414) ((h.far q3413 b3452.lt (by simp)).trans b3452)) (pair_mono f3455 h.mono),
      fun s v h => does_val rfl rfl (x_load_r ((h.same 4 rfl).trans p3420) ((h.far q3419 b3453.lt (by simp)).trans b3453)) (pair_mono f3456 h.mono),
      fun s v h => does_call rfl rfl (x_call2 Try.call23) ((ren2 u0 v0 (qadd_k (h.dep 0 rfl) (h.dep 1 rfl) (by omega) (by omega) hq0 hq1 (dv_of hp hp1)))),
      fun s v h => does_val rfl rfl (x_move) (h.dep 2 rfl),
      fun s v h => by obtain ⟨r0, r1, e, f0, f1⟩ := tup2_at (h.dep 3 rfl); exact does_val rfl rfl (x_ext e rfl) f0,
      fun s v h => by obtain ⟨r0, r1, e, f0, f1⟩ := tup2_at (h.dep 3 rfl); exact does_val rfl rfl (x_ext e rfl) f1,
      fun s v h => does_new rfl rfl x_alloc_r (okr _ _ _ _ _ _ _ _) rfl (.inl rfl),
      fun s v h => by obtain ⟨q, e1, e2, e3⟩ := new_at (h.dep 6 rfl); exact does_put_r rfl rfl e1 (pair_shape (num_cz _) (num_cz _) (h.dep 4 rfl)) e3 (Nat.le_trans HB e2),
      fun s v h => does_val rfl rfl (x_assign) (h.dep 5 rfl), trivial⟩
  intro g3467 ts v3467 hts E3467
  simp only [fillL, Nat.reduceAdd, List.setIfInBounds_toArray, List.set_cons_zero, List.set_cons_succ] at hts
  subst hts
  have T3468 : Below w.heap.size w v3467 := T3448.trans E3467.below
  have l3469 : q3413 < v3447.heap.size := b3452.lt
  have l3470 : q3419 < v3447.heap.size := b3453.lt
  have l3471 : q3426 < v3447.heap.size := b3454.lt
  have b3472 : Bx v3467 q3413 29 #[.bool na0, .slice A0 n0 c0, .bool nb0, .slice B0 m0 d0] := (E3467.far q3413 b3452.lt (by simp)).trans b3452
  have b3473 : Bx v3467 q3419 29 #[.bool na1, .slice A1 n1 c1, .bool nb1, .slice B1 m1 d1] := (E3467.far q3419 b3453.lt (by simp)).trans b3453
  have b3474 : Bx v3467 q3426 29 #[.bool na2, .slice A2 n2 c2, .bool nb2, .slice B2 m2 d2] := (E3467.far q3426 b3454.lt (by simp)).trans b3454
  have f3475 := (pair_mono f3455 E3467.mono)
  have f3476 := (pair_mono f3456 E3467.mono)
  have f3477 := (pair_mono f3457 E3467.mono)
  have f3483 : ((.pair (.cz U1_) (.cz W1_)) : Known).p v3467 (g3467 4) := E3467.facts 4 (by decide)
  obtain ⟨q3486, p3487, l3488, o3489⟩ : ∃ q, g3467 6 = .pointer (some ⟨q, 0, none⟩) ∧ v3447.heap.size ≤ q ∧ OkB v3467 q 4 := E3467.facts 6 (by decide)
  have h3490 : w.heap.size ≤ q3486 := Nat.le_trans HB l3488
  obtain ⟨t3494, x3496, A3497, m3498, c3499, x3500, A3501, m3502, c3503, e3504, b3495⟩ := put_info4 (E3467.facts 7 (by decide)) p3487 (pair_shape (num_cz _) (num_cz _) f3483)
  have f3505 : ((.pair (.cz U1_) (.cz W1_)) : Known).p v3467 (.agg #[.bool x3496, .slice A3497 m3498 c3499, .bool x3500, .slice A3501 m3502 c3503]) := pair_at f3483 e3504.symm
  refine then_normal ?_
  refine wp_seq ?_
  have HB : w.heap.size ≤ v3467.heap.size := T3468.size
  refine wp_plan_seq [.val (.pair (.az 1048576 p1) (.az 1048576 q1)), .val (.pair (.az 1048576 p) (.az 1048576 q)), .val (.tup2 (.pair (.cz U1_) (.cz W1_)) (.is (.int .i64 0))), .val (.tup2 (.pair (.cz U1_) (.cz W1_)) (.is (.int .i64 0))), .val (.pair (.cz U1_) (.cz W1_)), .val (.is (.int .i64 0)), .new 4 none, .put 9 52, .val (.is (.int .i64 0))] [] [] w.heap.size (by kernel_rfl) (by kernel_rfl) trivial HB ?_ ?_
  · exact ⟨fun s v h => does_val rfl rfl (x_load_r ((h.same 4 rfl).trans p3420) ((h.far q3419 b3473.lt (by simp)).trans b3473)) (pair_mono f3476 h.mono),
      fun s v h => does_val rfl rfl (x_load_r ((h.same 3 rfl).trans p3414) ((h.far q3413 b3472.lt (by simp)).trans b3472)) (pair_mono f3475 h.mono),
      fun s v h => does_call rfl rfl (x_call2 Try.call23) ((ren2 u1 v1 (qadd_k (h.dep 0 rfl) (h.dep 1 rfl) (by omega) (by omega) hq1 hq0 (dv_of hp1 hp)))),
      fun s v h => does_val rfl rfl (x_move) (h.dep 2 rfl),
      fun s v h => by obtain ⟨r0, r1, e, f0, f1⟩ := tup2_at (h.dep 3 rfl); exact does_val rfl rfl (x_ext e rfl) f0,
      fun s v h => by obtain ⟨r0, r1, e, f0, f1⟩ := tup2_at (h.dep 3 rfl); exact does_val rfl rfl (x_ext e rfl) f1,
      fun s v h => does_new rfl rfl x_alloc_r (okr _ _ _ _ _ _ _ _) rfl (.inl rfl),
      fun s v h => by obtain ⟨q, e1, e2, e3⟩ := new_at (h.dep 6 rfl); exact does_put_r rfl rfl e1 (pair_shape (num_cz _) (num_cz _) (h.dep 4 rfl)) e3 (Nat.le_trans HB e2),
      fun s v h => does_val rfl rfl (x_assign) (h.dep 5 rfl), trivial⟩
  intro g3506 ts v3506 hts E3506
  simp only [fillL, Nat.reduceAdd, List.setIfInBounds_toArray, List.set_cons_zero, List.set_cons_succ] at hts
  subst hts
  have T3507 : Below w.heap.size w v3506 := T3468.trans E3506.below
  have l3508 : q3413 < v3467.heap.size := b3472.lt
  have l3509 : q3419 < v3467.heap.size := b3473.lt
  have l3510 : q3426 < v3467.heap.size := b3474.lt
  have l3511 : q3486 < v3467.heap.size := b3495.lt
  have b3512 : Bx v3506 q3413 29 #[.bool na0, .slice A0 n0 c0, .bool nb0, .slice B0 m0 d0] := (E3506.far q3413 b3472.lt (by simp)).trans b3472
  have b3513 : Bx v3506 q3419 29 #[.bool na1, .slice A1 n1 c1, .bool nb1, .slice B1 m1 d1] := (E3506.far q3419 b3473.lt (by simp)).trans b3473
  have b3514 : Bx v3506 q3426 29 #[.bool na2, .slice A2 n2 c2, .bool nb2, .slice B2 m2 d2] := (E3506.far q3426 b3474.lt (by simp)).trans b3474
  have b3515 : Bx v3506 q3486 t3494 #[.bool x3496, .slice A3497 m3498 c3499, .bool x3500, .slice A3501 m3502 c3503] := (E3506.far q3486 b3495.lt (by simp)).trans b3495
  have f3516 := (pair_mono f3475 E3506.mono)
  have f3517 := (pair_mono f3476 E3506.mono)
  have f3518 := (pair_mono f3477 E3506.mono)
  have f3525 := (pair_mono f3505 E3506.mono)
  have f3528 : ((.pair (.cz U1_) (.cz W1_)) : Known).p v3506 (g3506 4) := E3506.facts 4 (by decide)
  obtain ⟨q3531, p3532, l3533, o3534⟩ : ∃ q, g3506 6 = .pointer (some ⟨q, 0, none⟩) ∧ v3467.heap.size ≤ q ∧ OkB v3506 q 4 := E3506.facts 6 (by decide)
  have h3535 : w.heap.size ≤ q3531 := Nat.le_trans HB l3533
  obtain ⟨t3540, x3542, A3543, m3544, c3545, x3546, A3547, m3548, c3549, e3550, b3541⟩ := put_info4 (E3506.facts 7 (by decide)) p3532 (pair_shape (num_cz _) (num_cz _) f3528)
  have f3551 : ((.pair (.cz U1_) (.cz W1_)) : Known).p v3506 (.agg #[.bool x3542, .slice A3543 m3544 c3545, .bool x3546, .slice A3547 m3548 c3549]) := pair_at f3528 e3550.symm
  refine then_normal ?_
  refine wp_seq ?_
  have HB : w.heap.size ≤ v3506.heap.size := T3507.size
  refine wp_plan_seq [.val (.pair (.az 1048576 p1) (.az 1048576 q1)), .val (.pair (.az 1048576 p2) (.az 1048576 q2)), .val (.tup2 (.pair (.cz U3_) (.cz W3_)) (.is (.int .i64 0))), .val (.tup2 (.pair (.cz U3_) (.cz W3_)) (.is (.int .i64 0))), .val (.pair (.cz U3_) (.cz W3_)), .val (.is (.int .i64 0)), .new 4 none, .put 11 58, .val (.is (.int .i64 0))] [] [] w.heap.size (by kernel_rfl) (by kernel_rfl) trivial HB ?_ ?_
  · exact ⟨fun s v h => does_val rfl rfl (x_load_r ((h.same 4 rfl).trans p3420) ((h.far q3419 b3513.lt (by simp)).trans b3513)) (pair_mono f3517 h.mono),
      fun s v h => does_val rfl rfl (x_load_r ((h.same 5 rfl).trans p3427) ((h.far q3426 b3514.lt (by simp)).trans b3514)) (pair_mono f3518 h.mono),
      fun s v h => does_call rfl rfl (x_call2 Try.call23) ((ren2 u2 v2 (qadd_k (h.dep 0 rfl) (h.dep 1 rfl) (by omega) (by omega) hq1 hq2 (dv_of hp1 hp2)))),
      fun s v h => does_val rfl rfl (x_move) (h.dep 2 rfl),
      fun s v h => by obtain ⟨r0, r1, e, f0, f1⟩ := tup2_at (h.dep 3 rfl); exact does_val rfl rfl (x_ext e rfl) f0,
      fun s v h => by obtain ⟨r0, r1, e, f0, f1⟩ := tup2_at (h.dep 3 rfl); exact does_val rfl rfl (x_ext e rfl) f1,
      fun s v h => does_new rfl rfl x_alloc_r (okr _ _ _ _ _ _ _ _) rfl (.inl rfl),
      fun s v h => by obtain ⟨q, e1, e2, e3⟩ := new_at (h.dep 6 rfl); exact does_put_r rfl rfl e1 (pair_shape (num_cz _) (num_cz _) (h.dep 4 rfl)) e3 (Nat.le_trans HB e2),
      fun s v h => does_val rfl rfl (x_assign) (h.dep 5 rfl), trivial⟩
  intro g3552 ts v3552 hts E3552
  simp only [fillL, Nat.reduceAdd, List.setIfInBounds_toArray, List.set_cons_zero, List.set_cons_succ] at hts
  subst hts
  have T3553 : Below w.heap.size w v3552 := T3507.trans E3552.below
  have l3554 : q3413 < v3506.heap.size := b3512.lt
  have l3555 : q3419 < v3506.heap.size := b3513.lt
  have l3556 : q3426 < v3506.heap.size := b3514.lt
  have l3557 : q3486 < v3506.heap.size := b3515.lt
  have l3558 : q3531 < v3506.heap.size := b3541.lt
  have b3559 : Bx v3552 q3413 29 #[.bool na0, .slice A0 n0 c0, .bool nb0, .slice B0 m0 d0] := (E3552.far q3413 b3512.lt (by simp)).trans b3512
  have b3560 : Bx v3552 q3419 29 #[.bool na1, .slice A1 n1 c1, .bool nb1, .slice B1 m1 d1] := (E3552.far q3419 b3513.lt (by simp)).trans b3513
  have b3561 : Bx v3552 q3426 29 #[.bool na2, .slice A2 n2 c2, .bool nb2, .slice B2 m2 d2] := (E3552.far q3426 b3514.lt (by simp)).trans b3514
  have b3562 : Bx v3552 q3486 t3494 #[.bool x3496, .slice A3497 m3498 c3499, .bool x3500, .slice A3501 m3502 c3503] := (E3552.far q3486 b3515.lt (by simp)).trans b3515
  have b3563 : Bx v3552 q3531 t3540 #[.bool x3542, .slice A3543 m3544 c3545, .bool x3546, .slice A3547 m3548 c3549] := (E3552.far q3531 b3541.lt (by simp)).trans b3541
  have f3564 := (pair_mono f3516 E3552.mono)
  have f3565 := (pair_mono f3517 E3552.mono)
  have f3566 := (pair_mono f3518 E3552.mono)
  have f3573 := (pair_mono f3525 E3552.mono)
  have f3577 := (pair_mono f3551 E3552.mono)
  have f3580 : ((.pair (.cz U3_) (.cz W3_)) : Known).p v3552 (g3552 4) := E3552.facts 4 (by decide)
  obtain ⟨q3583, p3584, l3585, o3586⟩ : ∃ q, g3552 6 = .pointer (some ⟨q, 0, none⟩) ∧ v3506.heap.size ≤ q ∧ OkB v3552 q 4 := E3552.facts 6 (by decide)
  have h3587 : w.heap.size ≤ q3583 := Nat.le_trans HB l3585
  obtain ⟨t3593, x3595, A3596, m3597, c3598, x3599, A3600, m3601, c3602, e3603, b3594⟩ := put_info4 (E3552.facts 7 (by decide)) p3584 (pair_shape (num_cz _) (num_cz _) f3580)
  have f3604 : ((.pair (.cz U3_) (.cz W3_)) : Known).p v3552 (.agg #[.bool x3595, .slice A3596 m3597 c3598, .bool x3599, .slice A3600 m3601 c3602]) := pair_at f3580 e3603.symm
  refine then_normal ?_
  refine wp_seq ?_
  have HB : w.heap.size ≤ v3552.heap.size := T3553.size
  refine wp_plan_seq [.val (.pair (.cz U1_) (.cz W1_)), .val (.pair (.az 1048576 p2) (.az 1048576 q2)), .val (.tup2 (.pair (.cz U4_) (.cz W4_)) (.is (.int .i64 0))), .val (.tup2 (.pair (.cz U4_) (.cz W4_)) (.is (.int .i64 0))), .val (.pair (.cz U4_) (.cz W4_)), .val (.is (.int .i64 0)), .new 4 none, .put 13 64, .val (.is (.int .i64 0))] [] [] w.heap.size (by kernel_rfl) (by kernel_rfl) trivial HB ?_ ?_
  · exact ⟨fun s v h => does_val rfl rfl (x_load_r ((h.same 7 rfl).trans p3487) ((h.far q3486 b3562.lt (by simp)).trans b3562)) (pair_mono f3573 h.mono),
      fun s v h => does_val rfl rfl (x_load_r ((h.same 5 rfl).trans p3427) ((h.far q3426 b3561.lt (by simp)).trans b3561)) (pair_mono f3566 h.mono),
      fun s v h => does_call rfl rfl (x_call2 Try.call23) ((ren2 u3 v3 (qadd_k (rz_cc (N := 3000000) (h.dep 0 rfl) LU1_ LW1_) (h.dep 1 rfl) (by omega) (by omega) ZW1_ hq2 (dv_of PW1_ hp2)))),
      fun s v h => does_val rfl rfl (x_move) (h.dep 2 rfl),
      fun s v h => by obtain ⟨r0, r1, e, f0, f1⟩ := tup2_at (h.dep 3 rfl); exact does_val rfl rfl (x_ext e rfl) f0,
      fun s v h => by obtain ⟨r0, r1, e, f0, f1⟩ := tup2_at (h.dep 3 rfl); exact does_val rfl rfl (x_ext e rfl) f1,
      fun s v h => does_new rfl rfl x_alloc_r (okr _ _ _ _ _ _ _ _) rfl (.inl rfl),
      fun s v h => by obtain ⟨q, e1, e2, e3⟩ := new_at (h.dep 6 rfl); exact does_put_r rfl rfl e1 (pair_shape (num_cz _) (num_cz _) (h.dep 4 rfl)) e3 (Nat.le_trans HB e2),
      fun s v h => does_val rfl rfl (x_assign) (h.dep 5 rfl), trivial⟩
  intro g3605 ts v3605 hts E3605
  simp only [fillL, Nat.reduceAdd, List.setIfInBounds_toArray, List.set_cons_zero, List.set_cons_succ] at hts
  subst hts
  have T3606 : Below w.heap.size w v3605 := T3553.trans E3605.below
  have l3607 : q3413 < v3552.heap.size := b3559.lt
  have l3608 : q3419 < v3552.heap.size := b3560.lt
  have l3609 : q3426 < v3552.heap.size := b3561.lt
  have l3610 : q3486 < v3552.heap.size := b3562.lt
  have l3611 : q3531 < v3552.heap.size := b3563.lt
  have l3612 : q3583 < v3552.heap.size := b3594.lt
  have b3613 : Bx v3605 q3413 29 #[.bool na0, .slice A0 n0 c0, .bool nb0, .slice B0 m0 d0] := (E3605.far q3413 b3559.lt (by simp)).trans b3559
  have b3614 : Bx v3605 q3419 29 #[.bool na1, .slice A1 n1 c1, .bool nb1, .slice B1 m1 d1] := (E3605.far q3419 b3560.lt (by simp)).trans b3560
  have b3615 : Bx v3605 q3426 29 #[.bool na2, .slice A2 n2 c2, .bool nb2, .slice B2 m2 d2] := (E3605.far q3426 b3561.lt (by simp)).trans b3561
  have b3616 : Bx v3605 q3486 t3494 #[.bool x3496, .slice A3497 m3498 c3499, .bool x3500, .slice A3501 m3502 c3503] := (E3605.far q3486 b3562.lt (by simp)).trans b3562
  have b3617 : Bx v3605 q3531 t3540 #[.bool x3542, .slice A3543 m3544 c3545, .bool x3546, .slice A3547 m3548 c3549] := (E3605.far q3531 b3563.lt (by simp)).trans b3563
  have b3618 : Bx v3605 q3583 t3593 #[.bool x3595, .slice A3596 m3597 c3598, .bool x3599, .slice A3600 m3601 c3602] := (E3605.far q3583 b3594.lt (by simp)).trans b3594
  have f3619 := (pair_mono f3564 E3605.mono)
  have f3620 := (pair_mono f3565 E3605.mono)
  have f3621 := (pair_mono f3566 E3605.mono)
  have f3628 := (pair_mono f3573 E3605.mono)
  have f3632 := (pair_mono f3577 E3605.mono)
  have f3636 := (pair_mono f3604 E3605.mono)
  have f3639 : ((.pair (.cz U4_) (.cz W4_)) : Known).p v3605 (g3605 4) := E3605.facts 4 (by decide)
  obtain ⟨q3642, p3643, l3644, o3645⟩ : ∃ q, g3605 6 = .pointer (some ⟨q, 0, none⟩) ∧ v3552.heap.size ≤ q ∧ OkB v3605 q 4 := E3605.facts 6 (by decide)
  have h3646 : w.heap.size ≤ q3642 := Nat.le_trans HB l3644
  obtain ⟨t3653, x3655, A3656, m3657, c3658, x3659, A3660, m3661, c3662, e3663, b3654⟩ := put_info4 (E3605.facts 7 (by decide)) p3643 (pair_shape (num_cz _) (num_cz _) f3639)
  have f3664 : ((.pair (.cz U4_) (.cz W4_)) : Known).p v3605 (.agg #[.bool x3655, .slice A3656 m3657 c3658, .bool x3659, .slice A3660 m3661 c3662]) := pair_at f3639 e3663.symm
  refine then_normal ?_
  refine wp_seq ?_
  have HB : w.heap.size ≤ v3605.heap.size := T3606.size
  refine wp_plan_seq [.val (.pair (.az 1048576 p) (.az 1048576 q)), .val (.pair (.cz U3_) (.cz W3_)), .val (.tup2 (.pair (.cz U4_) (.cz W4_)) (.is (.int .i64 0))), .val (.tup2 (.pair (.cz U4_) (.cz W4_)) (.is (.int .i64 0))), .val (.pair (.cz U4_) (.cz W4_)), .val (.is (.int .i64 0)), .new 4 none, .put 15 70, .val (.is (.int .i64 0))] [] [] w.heap.size (by kernel_rfl) (by kernel_rfl) trivial HB ?_ ?_
  · exact ⟨fun s v h => does_val rfl rfl (x_load_r ((h.same 3 rfl).trans p3414) ((h.far q3413 b3613.lt (by simp)).trans b3613)) (pair_mono f3619 h.mono),
      fun s v h => does_val rfl rfl (x_load_r ((h.same 11 rfl).trans p3584) ((h.far q3583 b3618.lt (by simp)).trans b3618)) (pair_mono f3636 h.mono),
      fun s v h => does_call rfl rfl (x_call2 Try.call23) ((ren2 u4 v4 (qadd_k (h.dep 0 rfl) (rz_cc (N := 3000000) (h.dep 1 rfl) LU3_ LW3_) (by omega) (by omega) hq0 ZW3_ (dv_of hp PW3_)))),
      fun s v h => does_val rfl rfl (x_move) (h.dep 2 rfl),
      fun s v h => by obtain ⟨r0, r1, e, f0, f1⟩ := tup2_at (h.dep 3 rfl); exact does_val rfl rfl (x_ext e rfl) f0,
      fun s v h => by obtain ⟨r0, r1, e, f0, f1⟩ := tup2_at (h.dep 3 rfl); exact does_val rfl rfl (x_ext e rfl) f1,
      fun s v h => does_new rfl rfl x_alloc_r (okr _ _ _ _ _ _ _ _) rfl (.inl rfl),
      fun s v h => by obtain ⟨q, e1, e2, e3⟩ := new_at (h.dep 6 rfl); exact does_put_r rfl rfl e1 (pair_shape (num_cz _) (num_cz _) (h.dep 4 rfl)) e3 (Nat.le_trans HB e2),
      fun s v h => does_val rfl rfl (x_assign) (h.dep 5 rfl), trivial⟩
  intro g3665 ts v3665 hts E3665
  simp only [fillL, Nat.reduceAdd, List.setIfInBounds_toArray, List.set_cons_zero, List.set_cons_succ] at hts
  subst hts
  have T3666 : Below w.heap.size w v3665 := T3606.trans E3665.below
  have l3667 : q3413 < v3605.heap.size := b3613.lt
  have l3668 : q3419 < v3605.heap.size := b3614.lt
  have l3669 : q3426 < v3605.heap.size := b3615.lt
  have l3670 : q3486 < v3605.heap.size := b3616.lt
  have l3671 : q3531 < v3605.heap.size := b3617.lt
  have l3672 : q3583 < v3605.heap.size := b3618.lt
  have l3673 : q3642 < v3605.heap.size := b3654.lt
  have b3674 : Bx v3665 q3413 29 #[.bool na0, .slice A0 n0 c0, .bool nb0, .slice B0 m0 d0] := (E3665.far q3413 b3613.lt (by simp)).trans b3613
  have b3675 : Bx v3665 q3419 29 #[.bool na1, .slice A1 n1 c1, .bool nb1, .slice B1 m1 d1] := (E3665.far q3419 b3614.lt (by simp)).trans b3614
  have b3676 : Bx v3665 q3426 29 #[.bool na2, .slice A2 n2 c2, .bool nb2, .slice B2 m2 d2] := (E3665.far q3426 b3615.lt (by simp)).trans b3615
  have b3677 : Bx v3665 q3486 t3494 #[.bool x3496, .slice A3497 m3498 c3499, .bool x3500, .slice A3501 m3502 c3503] := (E3665.far q3486 b3616.lt (by simp)).trans b3616
  have b3678 : Bx v3665 q3531 t3540 #[.bool x3542, .slice A3543 m3544 c3545, .bool x3546, .slice A3547 m3548 c3549] := (E3665.far q3531 b3617.lt (by simp)).trans b3617
  have b3679 : Bx v3665 q3583 t3593 #[.bool x3595, .slice A3596 m3597 c3598, .bool x3599, .slice A3600 m3601 c3602] := (E3665.far q3583 b3618.lt (by simp)).trans b3618
  have b3680 : Bx v3665 q3642 t3653 #[.bool x3655, .slice A3656 m3657 c3658, .bool x3659, .slice A3660 m3661 c3662] := (E3665.far q3642 b3654.lt (by simp)).trans b3654
  have f3681 := (pair_mono f3619 E3665.mono)
  have f3682 := (pair_mono f3620 E3665.mono)
  have f3683 := (pair_mono f3621 E3665.mono)
  have f3690 := (pair_mono f3628 E3665.mono)
  have f3694 := (pair_mono f3632 E3665.mono)
  have f3698 := (pair_mono f3636 E3665.mono)
  have f3702 := (pair_mono f3664 E3665.mono)
  have f3705 : ((.pair (.cz U4_) (.cz W4_)) : Known).p v3665 (g3665 4) := E3665.facts 4 (by decide)
  obtain ⟨q3708, p3709, l3710, o3711⟩ : ∃ q, g3665 6 = .pointer (some ⟨q, 0, none⟩) ∧ v3605.heap.size ≤ q ∧ OkB v3665 q 4 := E3665.facts 6 (by decide)
  have h3712 : w.heap.size ≤ q3708 := Nat.le_trans HB l3710
  obtain ⟨t3720, x3722, A3723, m3724, c3725, x3726, A3727, m3728, c3729, e3730, b3721⟩ := put_info4 (E3665.facts 7 (by decide)) p3709 (pair_shape (num_cz _) (num_cz _) f3705)
  have f3731 : ((.pair (.cz U4_) (.cz W4_)) : Known).p v3665 (.agg #[.bool x3722, .slice A3723 m3724 c3725, .bool x3726, .slice A3727 m3728 c3729]) := pair_at f3705 e3730.symm
  refine then_normal ?_
  refine wp_seq ?_
  have HB : w.heap.size ≤ v3665.heap.size := T3666.size
  refine wp_plan_seq [.val (.pair (.az 1048576 p) (.az 1048576 q)), .val (.pair (.cz U3_) (.cz W3_)), .val (.tup2 (.pair (.cz U6_) (.cz W6_)) (.is (.int .i64 0))), .val (.tup2 (.pair (.cz U6_) (.cz W6_)) (.is (.int .i64 0))), .val (.pair (.cz U6_) (.cz W6_)), .val (.is (.int .i64 0)), .new 4 none, .put 17 76, .val (.is (.int .i64 0))] [] [] w.heap.size (by kernel_rfl) (by kernel_rfl) trivial HB ?_ ?_
  · exact ⟨fun s v h => does_val rfl rfl (x_load_r ((h.same 3 rfl).trans p3414) ((h.far q3413 b3674.lt (by simp)).trans b3674)) (pair_mono f3681 h.mono),
      fun s v h => does_val rfl rfl (x_load_r ((h.same 11 rfl).trans p3584) ((h.far q3583 b3679.lt (by simp)).trans b3679)) (pair_mono f3698 h.mono),
      fun s v h => does_call rfl rfl (x_call2 Try.call27) ((ren2 u5 v5 (qmul_k (h.dep 0 rfl) (rz_cc (N := 3000000) (h.dep 1 rfl) LU3_ LW3_) (by omega) (by omega) hq0 ZW3_ (dv_of hp PW3_)))),
      fun s v h => does_val rfl rfl (x_move) (h.dep 2 rfl),
      fun s v h => by obtain ⟨r0, r1, e, f0, f1⟩ := tup2_at (h.dep 3 rfl); exact does_val rfl rfl (x_ext e rfl) f0,
      fun s v h => by obtain ⟨r0, r1, e, f0, f1⟩ := tup2_at (h.dep 3 rfl); exact does_val rfl rfl (x_ext e rfl) f1,
      fun s v h => does_new rfl rfl x_alloc_r (okr _ _ _ _ _ _ _ _) rfl (.inl rfl),
      fun s v h => by obtain ⟨q, e1, e2, e3⟩ := new_at (h.dep 6 rfl); exact does_put_r rfl rfl e1 (pair_shape (num_cz _) (num_cz _) (h.dep 4 rfl)) e3 (Nat.le_trans HB e2),
      fun s v h => does_val rfl rfl (x_assign) (h.dep 5 rfl), trivial⟩
  intro g3732 ts v3732 hts E3732
  simp only [fillL, Nat.reduceAdd, List.setIfInBounds_toArray, List.set_cons_zero, List.set_cons_succ] at hts
  subst hts
  have T3733 : Below w.heap.size w v3732 := T3666.trans E3732.below
  have l3734 : q3413 < v3665.heap.size := b3674.lt
  have l3735 : q3419 < v3665.heap.size := b3675.lt
  have l3736 : q3426 < v3665.heap.size := b3676.lt
  have l3737 : q3486 < v3665.heap.size := b3677.lt
  have l3738 : q3531 < v3665.heap.size := b3678.lt
  have l3739 : q3583 < v3665.heap.size := b3679.lt
  have l3740 : q3642 < v3665.heap.size := b3680.lt
  have l3741 : q3708 < v3665.heap.size := b3721.lt
  have b3742 : Bx v3732 q3413 29 #[.bool na0, .slice A0 n0 c0, .bool nb0, .slice B0 m0 d0] := (E3732.far q3413 b3674.lt (by simp)).trans b3674
  have b3743 : Bx v3732 q3419 29 #[.bool na1, .slice A1 n1 c1, .bool nb1, .slice B1 m1 d1] := (E3732.far q3419 b3675.lt (by simp)).trans b3675
  have b3744 : Bx v3732 q3426 29 #[.bool na2, .slice A2 n2 c2, .bool nb2, .slice B2 m2 d2] := (E3732.far q3426 b3676.lt (by simp)).trans b3676
  have b3745 : Bx v3732 q3486 t3494 #[.bool x3496, .slice A3497 m3498 c3499, .bool x3500, .slice A3501 m3502 c3503] := (E3732.far q3486 b3677.lt (by simp)).trans b3677
  have b3746 : Bx v3732 q3531 t3540 #[.bool x3542, .slice A3543 m3544 c3545, .bool x3546, .slice A3547 m3548 c3549] := (E3732.far q3531 b3678.lt (by simp)).trans b3678
  have b3747 : Bx v3732 q3583 t3593 #[.bool x3595, .slice A3596 m3597 c3598, .bool x3599, .slice A3600 m3601 c3602] := (E3732.far q3583 b3679.lt (by simp)).trans b3679
  have b3748 : Bx v3732 q3642 t3653 #[.bool x3655, .slice A3656 m3657 c3658, .bool x3659, .slice A3660 m3661 c3662] := (E3732.far q3642 b3680.lt (by simp)).trans b3680
  have b3749 : Bx v3732 q3708 t3720 #[.bool x3722, .slice A3723 m3724 c3725, .bool x3726, .slice A3727 m3728 c3729] := (E3732.far q3708 b3721.lt (by simp)).trans b3721
  have f3750 := (pair_mono f3681 E3732.mono)
  have f3751 := (pair_mono f3682 E3732.mono)
  have f3752 := (pair_mono f3683 E3732.mono)
  have f3759 := (pair_mono f3690 E3732.mono)
  have f3763 := (pair_mono f3694 E3732.mono)
  have f3771 := (pair_mono f3702 E3732.mono)
  have f3775 := (pair_mono f3731 E3732.mono)
  have f3778 : ((.pair (.cz U6_) (.cz W6_)) : Known).p v3732 (g3732 4) := E3732.facts 4 (by decide)
  obtain ⟨q3781, p3782, l3783, o3784⟩ : ∃ q, g3732 6 = .pointer (some ⟨q, 0, none⟩) ∧ v3665.heap.size ≤ q ∧ OkB v3732 q 4 := E3732.facts 6 (by decide)
  have h3785 : w.heap.size ≤ q3781 := Nat.le_trans HB l3783
  obtain ⟨t3794, x3796, A3797, m3798, c3799, x3800, A3801, m3802, c3803, e3804, b3795⟩ := put_info4 (E3732.facts 7 (by decide)) p3782 (pair_shape (num_cz _) (num_cz _) f3778)
  have f3805 : ((.pair (.cz U6_) (.cz W6_)) : Known).p v3732 (.agg #[.bool x3796, .slice A3797 m3798 c3799, .bool x3800, .slice A3801 m3802 c3803]) := pair_at f3778 e3804.symm
  refine then_normal ?_
  refine wp_seq ?_
  have HB : w.heap.size ≤ v3732.heap.size := T3733.size
  refine wp_plan_seq [.val (.pair (.az 1048576 p) (.az 1048576 q)), .val (.pair (.az 1048576 p1) (.az 1048576 q1)), .val (.tup2 (.pair (.cz U7_) (.cz W7_)) (.is (.int .i64 0))), .val (.tup2 (.pair (.cz U7_) (.cz W7_)) (.is (.int .i64 0))), .val (.pair (.cz U7_) (.cz W7_)), .val (.is (.int .i64 0)), .new 4 none, .put 19 82, .val (.is (.int .i64 0))] [] [] w.heap.size (by kernel_rfl) (by kernel_rfl) trivial HB ?_ ?_
  · exact ⟨fun s v h => does_val rfl rfl (x_load_r ((h.same 3 rfl).trans p3414) ((h.far q3413 b3742.lt (by simp)).trans b3742)) (pair_mono f3750 h.mono),
      fun s v h => does_val rfl rfl (x_load_r ((h.same 4 rfl).trans p3420) ((h.far q3419 b3743.lt (by simp)).trans b3743)) (pair_mono f3751 h.mono),
      fun s v h => does_call rfl rfl (x_call2 Try.call27) ((ren2 u6 v6 (qmul_k (h.dep 0 rfl) (h.dep 1 rfl) (by omega) (by omega) hq0 hq1 (dv_of hp hp1)))),
      fun s v h => does_val rfl rfl (x_move) (h.dep 2 rfl),
      fun s v h => by obtain ⟨r0, r1, e, f0, f1⟩ := tup2_at (h.dep 3 rfl); exact does_val rfl rfl (x_ext e rfl) f0,
      fun s v h => by obtain ⟨r0, r1, e, f0, f1⟩ := tup2_at (h.dep 3 rfl); exact does_val rfl rfl (x_ext e rfl) f1,
      fun s v h => does_new rfl rfl x_alloc_r (okr _ _ _ _ _ _ _ _) rfl (.inl rfl),
      fun s v h => by obtain ⟨q, e1, e2, e3⟩ := new_at (h.dep 6 rfl); exact does_put_r rfl rfl e1 (pair_shape (num_cz _) (num_cz _) (h.dep 4 rfl)) e3 (Nat.le_trans HB e2),
      fun s v h => does_val rfl rfl (x_assign) (h.dep 5 rfl), trivial⟩
  intro g3806 ts v3806 hts E3806
  simp only [fillL, Nat.reduceAdd, List.setIfInBounds_toArray, List.set_cons_zero, List.set_cons_succ] at hts
  subst hts
  have T3807 : Below w.heap.size w v3806 := T3733.trans E3806.below
  have l3808 : q3413 < v3732.heap.size := b3742.lt
  have l3809 : q3419 < v3732.heap.size := b3743.lt
  have l3810 : q3426 < v3732.heap.size := b3744.lt
  have l3811 : q3486 < v3732.heap.size := b3745.lt
  have l3812 : q3531 < v3732.heap.size := b3746.lt
  have l3813 : q3583 < v3732.heap.size := b3747.lt
  have l3814 : q3642 < v3732.heap.size := b3748.lt
  have l3815 : q3708 < v3732.heap.size := b3749.lt
  have l3816 : q3781 < v3732.heap.size := b3795.lt
  have b3817 : Bx v3806 q3413 29 #[.bool na0, .slice A0 n0 c0, .bool nb0, .slice B0 m0 d0] := (E3806.far q3413 b3742.lt (by simp)).trans b3742
  have b3818 : Bx v3806 q3419 29 #[.bool na1, .slice A1 n1 c1, .bool nb1, .slice B1 m1 d1] := (E3806.far q3419 b3743.lt (by simp)).trans b3743
  have b3819 : Bx v3806 q3426 29 #[.bool na2, .slice A2 n2 c2, .bool nb2, .slice B2 m2 d2] := (E3806.far q3426 b3744.lt (by simp)).trans b3744
  have b3820 : Bx v3806 q3486 t3494 #[.bool x3496, .slice A3497 m3498 c3499, .bool x3500, .slice A3501 m3502 c3503] := (E3806.far q3486 b3745.lt (by simp)).trans b3745
  have b3821 : Bx v3806 q3531 t3540 #[.bool x3542, .slice A3543 m3544 c3545, .bool x3546, .slice A3547 m3548 c3549] := (E3806.far q3531 b3746.lt (by simp)).trans b3746
  have b3822 : Bx v3806 q3583 t3593 #[.bool x3595, .slice A3596 m3597 c3598, .bool x3599, .slice A3600 m3601 c3602] := (E3806.far q3583 b3747.lt (by simp)).trans b3747
  have b3823 : Bx v3806 q3642 t3653 #[.bool x3655, .slice A3656 m3657 c3658, .bool x3659, .slice A3660 m3661 c3662] := (E3806.far q3642 b3748.lt (by simp)).trans b3748
  have b3824 : Bx v3806 q3708 t3720 #[.bool x3722, .slice A3723 m3724 c3725, .bool x3726, .slice A3727 m3728 c3729] := (E3806.far q3708 b3749.lt (by simp)).trans b3749
  have b3825 : Bx v3806 q3781 t3794 #[.bool x3796, .slice A3797 m3798 c3799, .bool x3800, .slice A3801 m3802 c3803] := (E3806.far q3781 b3795.lt (by simp)).trans b3795
  have f3826 := (pair_mono f3750 E3806.mono)
  have f3827 := (pair_mono f3751 E3806.mono)
  have f3828 := (pair_mono f3752 E3806.mono)
  have f3835 := (pair_mono f3759 E3806.mono)
  have f3839 := (pair_mono f3763 E3806.mono)
  have f3847 := (pair_mono f3771 E3806.mono)
  have f3851 := (pair_mono f3775 E3806.mono)
  have f3855 := (pair_mono f3805 E3806.mono)
  have f3858 : ((.pair (.cz U7_) (.cz W7_)) : Known).p v3806 (g3806 4) := E3806.facts 4 (by decide)
  obtain ⟨q3861, p3862, l3863, o3864⟩ : ∃ q, g3806 6 = .pointer (some ⟨q, 0, none⟩) ∧ v3732.heap.size ≤ q ∧ OkB v3806 q 4 := E3806.facts 6 (by decide)
  have h3865 : w.heap.size ≤ q3861 := Nat.le_trans HB l3863
  obtain ⟨t3875, x3877, A3878, m3879, c3880, x3881, A3882, m3883, c3884, e3885, b3876⟩ := put_info4 (E3806.facts 7 (by decide)) p3862 (pair_shape (num_cz _) (num_cz _) f3858)
  have f3886 : ((.pair (.cz U7_) (.cz W7_)) : Known).p v3806 (.agg #[.bool x3877, .slice A3878 m3879 c3880, .bool x3881, .slice A3882 m3883 c3884]) := pair_at f3858 e3885.symm
  refine then_normal ?_
  refine wp_seq ?_
  have HB : w.heap.size ≤ v3806.heap.size := T3807.size
  refine wp_plan_seq [.val (.pair (.az 1048576 p) (.az 1048576 q)), .val (.pair (.az 1048576 p2) (.az 1048576 q2)), .val (.tup2 (.pair (.cz U8_) (.cz W8_)) (.is (.int .i64 0))), .val (.tup2 (.pair (.cz U8_) (.cz W8_)) (.is (.int .i64 0))), .val (.pair (.cz U8_) (.cz W8_)), .val (.is (.int .i64 0)), .new 4 none, .put 21 88, .val (.is (.int .i64 0))] [] [] w.heap.size (by kernel_rfl) (by kernel_rfl) trivial HB ?_ ?_
  · exact ⟨fun s v h => does_val rfl rfl (x_load_r ((h.same 3 rfl).trans p3414) ((h.far q3413 b3817.lt (by simp)).trans b3817)) (pair_mono f3826 h.mono),
      fun s v h => does_val rfl rfl (x_load_r ((h.same 5 rfl).trans p3427) ((h.far q3426 b3819.lt (by simp)).trans b3819)) (pair_mono f3828 h.mono),
      fun s v h => does_call rfl rfl (x_call2 Try.call27) ((ren2 u7 v7 (qmul_k (h.dep 0 rfl) (h.dep 1 rfl) (by omega) (by omega) hq0 hq2 (dv_of hp hp2)))),
      fun s v h => does_val rfl rfl (x_move) (h.dep 2 rfl),
      fun s v h => by obtain ⟨r0, r1, e, f0, f1⟩ := tup2_at (h.dep 3 rfl); exact does_val rfl rfl (x_ext e rfl) f0,
      fun s v h => by obtain ⟨r0, r1, e, f0, f1⟩ := tup2_at (h.dep 3 rfl); exact does_val rfl rfl (x_ext e rfl) f1,
      fun s v h => does_new rfl rfl x_alloc_r (okr _ _ _ _ _ _ _ _) rfl (.inl rfl),
      fun s v h => by obtain ⟨q, e1, e2, e3⟩ := new_at (h.dep 6 rfl); exact does_put_r rfl rfl e1 (pair_shape (num_cz _) (num_cz _) (h.dep 4 rfl)) e3 (Nat.le_trans HB e2),
      fun s v h => does_val rfl rfl (x_assign) (h.dep 5 rfl), trivial⟩
  intro g3887 ts v3887 hts E3887
  simp only [fillL, Nat.reduceAdd, List.setIfInBounds_toArray, List.set_cons_zero, List.set_cons_succ] at hts
  subst hts
  have T3888 : Below w.heap.size w v3887 := T3807.trans E3887.below
  have l3889 : q3413 < v3806.heap.size := b3817.lt
  have l3890 : q3419 < v3806.heap.size := b3818.lt
  have l3891 : q3426 < v3806.heap.size := b3819.lt
  have l3892 : q3486 < v3806.heap.size := b3820.lt
  have l3893 : q3531 < v3806.heap.size := b3821.lt
  have l3894 : q3583 < v3806.heap.size := b3822.lt
  have l3895 : q3642 < v3806.heap.size := b3823.lt
  have l3896 : q3708 < v3806.heap.size := b3824.lt
  have l3897 : q3781 < v3806.heap.size := b3825.lt
  have l3898 : q3861 < v3806.heap.size := b3876.lt
  have b3899 : Bx v3887 q3413 29 #[.bool na0, .slice A0 n0 c0, .bool nb0, .slice B0 m0 d0] := (E3887.far q3413 b3817.lt (by simp)).trans b3817
  have b3900 : Bx v3887 q3419 29 #[.bool na1, .slice A1 n1 c1, .bool nb1, .slice B1 m1 d1] := (E3887.far q3419 b3818.lt (by simp)).trans b3818
  have b3901 : Bx v3887 q3426 29 #[.bool na2, .slice A2 n2 c2, .bool nb2, .slice B2 m2 d2] := (E3887.far q3426 b3819.lt (by simp)).trans b3819
  have b3902 : Bx v3887 q3486 t3494 #[.bool x3496, .slice A3497 m3498 c3499, .bool x3500, .slice A3501 m3502 c3503] := (E3887.far q3486 b3820.lt (by simp)).trans b3820
  have b3903 : Bx v3887 q3531 t3540 #[.bool x3542, .slice A3543 m3544 c3545, .bool x3546, .slice A3547 m3548 c3549] := (E3887.far q3531 b3821.lt (by simp)).trans b3821
  have b3904 : Bx v3887 q3583 t3593 #[.bool x3595, .slice A3596 m3597 c3598, .bool x3599, .slice A3600 m3601 c3602] := (E3887.far q3583 b3822.lt (by simp)).trans b3822
  have b3905 : Bx v3887 q3642 t3653 #[.bool x3655, .slice A3656 m3657 c3658, .bool x3659, .slice A3660 m3661 c3662] := (E3887.far q3642 b3823.lt (by simp)).trans b3823
  have b3906 : Bx v3887 q3708 t3720 #[.bool x3722, .slice A3723 m3724 c3725, .bool x3726, .slice A3727 m3728 c3729] := (E3887.far q3708 b3824.lt (by simp)).trans b3824
  have b3907 : Bx v3887 q3781 t3794 #[.bool x3796, .slice A3797 m3798 c3799, .bool x3800, .slice A3801 m3802 c3803] := (E3887.far q3781 b3825.lt (by simp)).trans b3825
  have b3908 : Bx v3887 q3861 t3875 #[.bool x3877, .slice A3878 m3879 c3880, .bool x3881, .slice A3882 m3883 c3884] := (E3887.far q3861 b3876.lt (by simp)).trans b3876
  have f3909 := (pair_mono f3826 E3887.mono)
  have f3910 := (pair_mono f3827 E3887.mono)
  have f3918 := (pair_mono f3835 E3887.mono)
  have f3922 := (pair_mono f3839 E3887.mono)
  have f3930 := (pair_mono f3847 E3887.mono)
  have f3934 := (pair_mono f3851 E3887.mono)
  have f3938 := (pair_mono f3855 E3887.mono)
  have f3942 := (pair_mono f3886 E3887.mono)
  have f3945 : ((.pair (.cz U8_) (.cz W8_)) : Known).p v3887 (g3887 4) := E3887.facts 4 (by decide)
  obtain ⟨q3948, p3949, l3950, o3951⟩ : ∃ q, g3887 6 = .pointer (some ⟨q, 0, none⟩) ∧ v3806.heap.size ≤ q ∧ OkB v3887 q 4 := E3887.facts 6 (by decide)
  have h3952 : w.heap.size ≤ q3948 := Nat.le_trans HB l3950
  obtain ⟨t3963, x3965, A3966, m3967, c3968, x3969, A3970, m3971, c3972, e3973, b3964⟩ := put_info4 (E3887.facts 7 (by decide)) p3949 (pair_shape (num_cz _) (num_cz _) f3945)
  have f3974 : ((.pair (.cz U8_) (.cz W8_)) : Known).p v3887 (.agg #[.bool x3965, .slice A3966 m3967 c3968, .bool x3969, .slice A3970 m3971 c3972]) := pair_at f3945 e3973.symm
  refine then_normal ?_
  refine wp_seq ?_
  have HB : w.heap.size ≤ v3887.heap.size := T3888.size
  refine wp_plan_seq [.val (.pair (.cz U7_) (.cz W7_)), .val (.pair (.cz U8_) (.cz W8_)), .val (.tup2 (.pair (.cz U6_) (.cz W6_)) (.is (.int .i64 0))), .val (.tup2 (.pair (.cz U6_) (.cz W6_)) (.is (.int .i64 0))), .val (.pair (.cz U6_) (.cz W6_)), .val (.is (.int .i64 0)), .new 4 none, .put 23 94, .val (.is (.int .i64 0))] [] [] w.heap.size (by kernel_rfl) (by kernel_rfl) trivial HB ?_ ?_
  · exact ⟨fun s v h => does_val rfl rfl (x_load_r ((h.same 19 rfl).trans p3862) ((h.far q3861 b3908.lt (by simp)).trans b3908)) (pair_mono f3942 h.mono),
      fun s v h => does_val rfl rfl (x_load_r ((h.same 21 rfl).trans p3949) ((h.far q3948 b3964.lt (by simp)).trans b3964)) (pair_mono f3974 h.mono),
      fun s v h => does_call rfl rfl (x_call2 Try.call23) ((ren2 u8 v8 (qadd_k (rz_cc (N := 3000000) (h.dep 0 rfl) LU7_ LW7_) (rz_cc (N := 3000000) (h.dep 1 rfl) LU8_ LW8_) (by omega) (by omega) ZW7_ ZW8_ (dv_of PW7_ PW8_)))),
      fun s v h => does_val rfl rfl (x_move) (h.dep 2 rfl),
      fun s v h => by obtain ⟨r0, r1, e, f0, f1⟩ := tup2_at (h.dep 3 rfl); exact does_val rfl rfl (x_ext e rfl) f0,
      fun s v h => by obtain ⟨r0, r1, e, f0, f1⟩ := tup2_at (h.dep 3 rfl); exact does_val rfl rfl (x_ext e rfl) f1,
      fun s v h => does_new rfl rfl x_alloc_r (okr _ _ _ _ _ _ _ _) rfl (.inl rfl),
      fun s v h => by obtain ⟨q, e1, e2, e3⟩ := new_at (h.dep 6 rfl); exact does_put_r rfl rfl e1 (pair_shape (num_cz _) (num_cz _) (h.dep 4 rfl)) e3 (Nat.le_trans HB e2),
      fun s v h => does_val rfl rfl (x_assign) (h.dep 5 rfl), trivial⟩
  intro g3975 ts v3975 hts E3975
  simp only [fillL, Nat.reduceAdd, List.setIfInBounds_toArray, List.set_cons_zero, List.set_cons_succ] at hts
  subst hts
  have T3976 : Below w.heap.size w v3975 := T3888.trans E3975.below
  have l3977 : q3413 < v3887.heap.size := b3899.lt
  have l3978 : q3419 < v3887.heap.size := b3900.lt
  have l3979 : q3426 < v3887.heap.size := b3901.lt
  have l3980 : q3486 < v3887.heap.size := b3902.lt
  have l3981 : q3531 < v3887.heap.size := b3903.lt
  have l3982 : q3583 < v3887.heap.size := b3904.lt
  have l3983 : q3642 < v3887.heap.size := b3905.lt
  have l3984 : q3708 < v3887.heap.size := b3906.lt
  have l3985 : q3781 < v3887.heap.size := b3907.lt
  have l3986 : q3861 < v3887.heap.size := b3908.lt
  have l3987 : q3948 < v3887.heap.size := b3964.lt
  have b3988 : Bx v3975 q3413 29 #[.bool na0, .slice A0 n0 c0, .bool nb0, .slice B0 m0 d0] := (E3975.far q3413 b3899.lt (by simp)).trans b3899
  have b3989 : Bx v3975 q3419 29 #[.bool na1, .slice A1 n1 c1, .bool nb1, .slice B1 m1 d1] := (E3975.far q3419 b3900.lt (by simp)).trans b3900
  have b3990 : Bx v3975 q3426 29 #[.bool na2, .slice A2 n2 c2, .bool nb2, .slice B2 m2 d2] := (E3975.far q3426 b3901.lt (by simp)).trans b3901
  have b3991 : Bx v3975 q3486 t3494 #[.bool x3496, .slice A3497 m3498 c3499, .bool x3500, .slice A3501 m3502 c3503] := (E3975.far q3486 b3902.lt (by simp)).trans b3902
  have b3992 : Bx v3975 q3531 t3540 #[.bool x3542, .slice A3543 m3544 c3545, .bool x3546, .slice A3547 m3548 c3549] := (E3975.far q3531 b3903.lt (by simp)).trans b3903
  have b3993 : Bx v3975 q3583 t3593 #[.bool x3595, .slice A3596 m3597 c3598, .bool x3599, .slice A3600 m3601 c3602] := (E3975.far q3583 b3904.lt (by simp)).trans b3904
  have b3994 : Bx v3975 q3642 t3653 #[.bool x3655, .slice A3656 m3657 c3658, .bool x3659, .slice A3660 m3661 c3662] := (E3975.far q3642 b3905.lt (by simp)).trans b3905
  have b3995 : Bx v3975 q3708 t3720 #[.bool x3722, .slice A3723 m3724 c3725, .bool x3726, .slice A3727 m3728 c3729] := (E3975.far q3708 b3906.lt (by simp)).trans b3906
  have b3996 : Bx v3975 q3781 t3794 #[.bool x3796, .slice A3797 m3798 c3799, .bool x3800, .slice A3801 m3802 c3803] := (E3975.far q3781 b3907.lt (by simp)).trans b3907
  have b3997 : Bx v3975 q3861 t3875 #[.bool x3877, .slice A3878 m3879 c3880, .bool x3881, .slice A3882 m3883 c3884] := (E3975.far q3861 b3908.lt (by simp)).trans b3908
  have b3998 : Bx v3975 q3948 t3963 #[.bool x3965, .slice A3966 m3967 c3968, .bool x3969, .slice A3970 m3971 c3972] := (E3975.far q3948 b3964.lt (by simp)).trans b3964
  have f3999 := (pair_mono f3909 E3975.mono)
  have f4000 := (pair_mono f3910 E3975.mono)
  have f4008 := (pair_mono f3918 E3975.mono)
  have f4012 := (pair_mono f3922 E3975.mono)
  have f4020 := (pair_mono f3930 E3975.mono)
  have f4024 := (pair_mono f3934 E3975.mono)
  have f4028 := (pair_mono f3938 E3975.mono)
  have f4039 : ((.pair (.cz U6_) (.cz W6_)) : Known).p v3975 (g3975 4) := E3975.facts 4 (by decide)
  have e4041 : g3975 8 = (.int .i64 0) := E3975.facts 8 (by decide)
  obtain ⟨q4042, p4043, l4044, o4045⟩ : ∃ q, g3975 6 = .pointer (some ⟨q, 0, none⟩) ∧ v3887.heap.size ≤ q ∧ OkB v3975 q 4 := E3975.facts 6 (by decide)
  have h4046 : w.heap.size ≤ q4042 := Nat.le_trans HB l4044
  obtain ⟨t4058, x4060, A4061, m4062, c4063, x4064, A4065, m4066, c4067, e4068, b4059⟩ := put_info4 (E3975.facts 7 (by decide)) p4043 (pair_shape (num_cz _) (num_cz _) f4039)
  have f4069 : ((.pair (.cz U6_) (.cz W6_)) : Known).p v3975 (.agg #[.bool x4060, .slice A4061 m4062 c4063, .bool x4064, .slice A4065 m4066 c4067]) := pair_at f4039 e4068.symm
  refine then_normal ?_
  refine wp_seq ?_
  refine wp_seq ?_
  have HB : w.heap.size ≤ v3975.heap.size := T3976.size
  refine wp_plan_seq [.val (.is (.int .i64 0)), .val (.is (.bool false)), .val (.is (.bool false)), .val (.pair (.cz U1_) (.cz W1_)), .val (.pair (.cz U1_) (.cz W1_)), .val (.is (.bool true)), .val (.is (.bool false)), .val (.is (.bool false)), .val (.is (.bool false)), .val (.pair (.cz U4_) (.cz W4_)), .val (.pair (.cz U4_) (.cz W4_)), .val (.is (.bool true)), .val (.is (.bool false)), .val (.is (.bool false)), .val (.is (.bool false)), .val (.pair (.cz U6_) (.cz W6_)), .val (.pair (.cz U6_) (.cz W6_)), .val (.is (.bool true)), .val (.is (.bool false)), .val (.is (.bool false))] [] [] w.heap.size (by kernel_rfl) (by kernel_rfl) trivial HB ?_ ?_
  · exact ⟨fun s v h => does_val rfl rfl (x_move) ((h.same 24 rfl).trans e4041),
      fun s v h => does_val rfl rfl (x_neq_err (h.dep 0 rfl) rfl) rfl,
      fun s v h => does_val rfl rfl (x_move) (h.dep 1 rfl),
      fun s v h => does_val rfl (wanted_by (b := false) (want := false) rfl rfl (h.dep 2 rfl)) (x_load_r ((h.same 7 rfl).trans p3487) ((h.far q3486 b3991.lt (by simp)).trans b3991)) (pair_mono f4008 h.mono),
      fun s v h => does_val rfl (wanted_by (b := false) (want := false) rfl rfl (h.dep 2 rfl)) (x_load_r ((h.same 9 rfl).trans p3532) ((h.far q3531 b3992.lt (by simp)).trans b3992)) (pair_mono f4012 h.mono),
      fun s v h => does_call rfl (wanted_by (b := false) (want := false) rfl rfl (h.dep 2 rfl)) (x_call2 Try.call15) (lsame_k (h.dep 3 rfl) (h.dep 4 rfl) rfl rfl),
      fun s v h => does_val rfl (wanted_by (b := false) (want := false) rfl rfl (h.dep 2 rfl)) (x_not (h.dep 5 rfl)) rfl,
      fun s v h => does_val rfl rfl (x_pick (h.dep 2 rfl)) (h.dep 6 rfl),
      fun s v h => does_val rfl rfl (x_move) (h.dep 7 rfl),
      fun s v h => does_val rfl (wanted_by (b := false) (want := false) rfl rfl (h.dep 8 rfl)) (x_load_r ((h.same 13 rfl).trans p3643) ((h.far q3642 b3994.lt (by simp)).trans b3994)) (pair_mono f4020 h.mono),
      fun s v h => does_val rfl (wanted_by (b := false) (want := false) rfl rfl (h.dep 8 rfl)) (x_load_r ((h.same 15 rfl).trans p3709) ((h.far q3708 b3995.lt (by simp)).trans b3995)) (pair_mono f4024 h.mono),
      fun s v h => does_call rfl (wanted_by (b := false) (want := false) rfl rfl (h.dep 8 rfl)) (x_call2 Try.call15) (lsame_k (h.dep 9 rfl) (h.dep 10 rfl) rfl rfl),
      fun s v h => does_val rfl (wanted_by (b := false) (want := false) rfl rfl (h.dep 8 rfl)) (x_not (h.dep 11 rfl)) rfl,
      fun s v h => does_val rfl rfl (x_pick (h.dep 8 rfl)) (h.dep 12 rfl),
      fun s v h => does_val rfl rfl (x_move) (h.dep 13 rfl),
      fun s v h => does_val rfl (wanted_by (b := false) (want := false) rfl rfl (h.dep 14 rfl)) (x_load_r ((h.same 17 rfl).trans p3782) ((h.far q3781 b3996.lt (by simp)).trans b3996)) (pair_mono f4028 h.mono),
      fun s v h => does_val rfl (wanted_by (b := false) (want := false) rfl rfl (h.dep 14 rfl)) (x_load_r ((h.same 23 rfl).trans p4043) ((h.far q4042 b4059.lt (by simp)).trans b4059)) (pair_mono f4069 h.mono),
      fun s v h => does_call rfl (wanted_by (b := false) (want := false) rfl rfl (h.dep 14 rfl)) (x_call2 Try.call15) (lsame_k (h.dep 15 rfl) (h.dep 16 rfl) rfl rfl),
      fun s v h => does_val rfl (wanted_by (b := false) (want := false) rfl rfl (h.dep 14 rfl)) (x_not (h.dep 17 rfl)) rfl,
      fun s v h => does_val rfl rfl (x_pick (h.dep 14 rfl)) (h.dep 18 rfl), trivial⟩
  intro g4070 ts v4070 hts E4070
  simp only [fillL, Nat.reduceAdd, List.setIfInBounds_toArray, List.set_cons_zero, List.set_cons_succ] at hts
  subst hts
  have T4071 : Below w.heap.size w v4070 := T3976.trans E4070.below
  have l4072 : q3413 < v3975.heap.size := b3988.lt
  have l4073 : q3419 < v3975.heap.size := b3989.lt
  have l4074 : q3426 < v3975.heap.size := b3990.lt
  have l4075 : q3486 < v3975.heap.size := b3991.lt
  have l4076 : q3531 < v3975.heap.size := b3992.lt
  have l4077 : q3583 < v3975.heap.size := b3993.lt
  have l4078 : q3642 < v3975.heap.size := b3994.lt
  have l4079 : q3708 < v3975.heap.size := b3995.lt
  have l4080 : q3781 < v3975.heap.size := b3996.lt
  have l4081 : q3861 < v3975.heap.size := b3997.lt
  have l4082 : q3948 < v3975.heap.size := b3998.lt
  have l4083 : q4042 < v3975.heap.size := b4059.lt
  have b4084 : Bx v4070 q3413 29 #[.bool na0, .slice A0 n0 c0, .bool nb0, .slice B0 m0 d0] := (E4070.far q3413 b3988.lt (by simp)).trans b3988
  have b4085 : Bx v4070 q3419 29 #[.bool na1, .slice A1 n1 c1, .bool nb1, .slice B1 m1 d1] := (E4070.far q3419 b3989.lt (by simp)).trans b3989
  have b4086 : Bx v4070 q3426 29 #[.bool na2, .slice A2 n2 c2, .bool nb2, .slice B2 m2 d2] := (E4070.far q3426 b3990.lt (by simp)).trans b3990
  have b4087 : Bx v4070 q3486 t3494 #[.bool x3496, .slice A3497 m3498 c3499, .bool x3500, .slice A3501 m3502 c3503] := (E4070.far q3486 b3991.lt (by simp)).trans b3991
  have b4088 : Bx v4070 q3531 t3540 #[.bool x3542, .slice A3543 m3544 c3545, .bool x3546, .slice A3547 m3548 c3549] := (E4070.far q3531 b3992.lt (by simp)).trans b3992
  have b4089 : Bx v4070 q3583 t3593 #[.bool x3595, .slice A3596 m3597 c3598, .bool x3599, .slice A3600 m3601 c3602] := (E4070.far q3583 b3993.lt (by simp)).trans b3993
  have b4090 : Bx v4070 q3642 t3653 #[.bool x3655, .slice A3656 m3657 c3658, .bool x3659, .slice A3660 m3661 c3662] := (E4070.far q3642 b3994.lt (by simp)).trans b3994
  have b4091 : Bx v4070 q3708 t3720 #[.bool x3722, .slice A3723 m3724 c3725, .bool x3726, .slice A3727 m3728 c3729] := (E4070.far q3708 b3995.lt (by simp)).trans b3995
  have b4092 : Bx v4070 q3781 t3794 #[.bool x3796, .slice A3797 m3798 c3799, .bool x3800, .slice A3801 m3802 c3803] := (E4070.far q3781 b3996.lt (by simp)).trans b3996
  have b4093 : Bx v4070 q3861 t3875 #[.bool x3877, .slice A3878 m3879 c3880, .bool x3881, .slice A3882 m3883 c3884] := (E4070.far q3861 b3997.lt (by simp)).trans b3997
  have b4094 : Bx v4070 q3948 t3963 #[.bool x3965, .slice A3966 m3967 c3968, .bool x3969, .slice A3970 m3971 c3972] := (E4070.far q3948 b3998.lt (by simp)).trans b3998
  have b4095 : Bx v4070 q4042 t4058 #[.bool x4060, .slice A4061 m4062 c4063, .bool x4064, .slice A4065 m4066 c4067] := (E4070.far q4042 b4059.lt (by simp)).trans b4059
  have f4096 := (pair_mono f3999 E4070.mono)
  have f4097 := (pair_mono f4000 E4070.mono)
  have f4105 := (pair_mono f4008 E4070.mono)
  have e4157 : g4070 19 = (.bool false) := E4070.facts 19 (by decide)
  refine then_normal ?_
  refine wp_cond_false e4157 ?_
  refine wp_skip ?_
  refine then_normal ?_
  refine wp_seq ?_
  have HB : w.heap.size ≤ v4070.heap.size := T4071.size
  refine wp_plan_seq [.val (.pair (.cz U1_) (.cz W1_)), .val (.pair (.az 1048576 p1) (.az 1048576 q1)), .val (.tup2 (.pair (.cz Uo_) (.cz Wo_)) (.is (.int .i64 0))), .val (.tup2 (.pair (.cz Uo_) (.cz Wo_)) (.is (.int .i64 0))), .val (.pair (.cz Uo_) (.cz Wo_)), .val (.is (.int .i64 0)), .new 4 none, .put 25 120, .val (.is (.int .i64 0))] [] [] w.heap.size (by kernel_rfl) (by kernel_rfl) trivial HB ?_ ?_
  · exact ⟨fun s v h => does_val rfl rfl (x_load_r ((h.same 7 rfl).trans p3487) ((h.far q3486 b4087.lt (by simp)).trans b4087)) (pair_mono f4105 h.mono),
      fun s v h => does_val rfl rfl (x_load_r ((h.same 4 rfl).trans p3420) ((h.far q3419 b4085.lt (by simp)).trans b4085)) (pair_mono f4097 h.mono),
      fun s v h => does_call rfl rfl (x_call2 Try.call24) ((ren2 u9 v9 (qsub_k (rz_cc (N := 3000000) (h.dep 0 rfl) LU1_ LW1_) (h.dep 1 rfl) (by omega) (by omega) ZW1_ hq1 (dv_of PW1_ hp1)))),
      fun s v h => does_val rfl rfl (x_move) (h.dep 2 rfl),
      fun s v h => by obtain ⟨r0, r1, e, f0, f1⟩ := tup2_at (h.dep 3 rfl); exact does_val rfl rfl (x_ext e rfl) f0,
      fun s v h => by obtain ⟨r0, r1, e, f0, f1⟩ := tup2_at (h.dep 3 rfl); exact does_val rfl rfl (x_ext e rfl) f1,
      fun s v h => does_new rfl rfl x_alloc_r (okr _ _ _ _ _ _ _ _) rfl (.inl rfl),
      fun s v h => by obtain ⟨q, e1, e2, e3⟩ := new_at (h.dep 6 rfl); exact does_put_r rfl rfl e1 (pair_shape (num_cz _) (num_cz _) (h.dep 4 rfl)) e3 (Nat.le_trans HB e2),
      fun s v h => does_val rfl rfl (x_assign) (h.dep 5 rfl), trivial⟩
  intro g4158 ts v4158 hts E4158
  simp only [fillL, Nat.reduceAdd, List.setIfInBounds_toArray, List.set_cons_zero, List.set_cons_succ] at hts
  subst hts
  have T4159 : Below w.heap.size w v4158 := T4071.trans E4158.below
  have l4160 : q3413 < v4070.heap.size := b4084.lt
  have l4161 : q3419 < v4070.heap.size := b4085.lt
  have l4162 : q3426 < v4070.heap.size := b4086.lt
  have l4163 : q3486 < v4070.heap.size := b4087.lt
  have l4164 : q3531 < v4070.heap.size := b4088.lt
  have l4165 : q3583 < v4070.heap.size := b4089.lt
  have l4166 : q3642 < v4070.heap.size := b4090.lt
  have l4167 : q3708 < v4070.heap.size := b4091.lt
  have l4168 : q3781 < v4070.heap.size := b4092.lt
  have l4169 : q3861 < v4070.heap.size := b4093.lt
  have l4170 : q3948 < v4070.heap.size := b4094.lt
  have l4171 : q4042 < v4070.heap.size := b4095.lt
  have b4172 : Bx v4158 q3413 29 #[.bool na0, .slice A0 n0 c0, .bool nb0, .slice B0 m0 d0] := (E4158.far q3413 b4084.lt (by simp)).trans b4084
  have b4173 : Bx v4158 q3419 29 #[.bool na1, .slice A1 n1 c1, .bool nb1, .slice B1 m1 d1] := (E4158.far q3419 b4085.lt (by simp)).trans b4085
  have b4174 : Bx v4158 q3426 29 #[.bool na2, .slice A2 n2 c2, .bool nb2, .slice B2 m2 d2] := (E4158.far q3426 b4086.lt (by simp)).trans b4086
  have b4175 : Bx v4158 q3486 t3494 #[.bool x3496, .slice A3497 m3498 c3499, .bool x3500, .slice A3501 m3502 c3503] := (E4158.far q3486 b4087.lt (by simp)).trans b4087
  have b4176 : Bx v4158 q3531 t3540 #[.bool x3542, .slice A3543 m3544 c3545, .bool x3546, .slice A3547 m3548 c3549] := (E4158.far q3531 b4088.lt (by simp)).trans b4088
  have b4177 : Bx v4158 q3583 t3593 #[.bool x3595, .slice A3596 m3597 c3598, .bool x3599, .slice A3600 m3601 c3602] := (E4158.far q3583 b4089.lt (by simp)).trans b4089
  have b4178 : Bx v4158 q3642 t3653 #[.bool x3655, .slice A3656 m3657 c3658, .bool x3659, .slice A3660 m3661 c3662] := (E4158.far q3642 b4090.lt (by simp)).trans b4090
  have b4179 : Bx v4158 q3708 t3720 #[.bool x3722, .slice A3723 m3724 c3725, .bool x3726, .slice A3727 m3728 c3729] := (E4158.far q3708 b4091.lt (by simp)).trans b4091
  have b4180 : Bx v4158 q3781 t3794 #[.bool x3796, .slice A3797 m3798 c3799, .bool x3800, .slice A3801 m3802 c3803] := (E4158.far q3781 b4092.lt (by simp)).trans b4092
  have b4181 : Bx v4158 q3861 t3875 #[.bool x3877, .slice A3878 m3879 c3880, .bool x3881, .slice A3882 m3883 c3884] := (E4158.far q3861 b4093.lt (by simp)).trans b4093
  have b4182 : Bx v4158 q3948 t3963 #[.bool x3965, .slice A3966 m3967 c3968, .bool x3969, .slice A3970 m3971 c3972] := (E4158.far q3948 b4094.lt (by simp)).trans b4094
  have b4183 : Bx v4158 q4042 t4058 #[.bool x4060, .slice A4061 m4062 c4063, .bool x4064, .slice A4065 m4066 c4067] := (E4158.far q4042 b4095.lt (by simp)).trans b4095
  have f4184 := (pair_mono f4096 E4158.mono)
  have f4185 := (pair_mono f4097 E4158.mono)
  have f4234 : ((.pair (.cz Uo_) (.cz Wo_)) : Known).p v4158 (g4158 4) := E4158.facts 4 (by decide)
  have e4236 : g4158 8 = (.int .i64 0) := E4158.facts 8 (by decide)
  obtain ⟨q4237, p4238, l4239, o4240⟩ : ∃ q, g4158 6 = .pointer (some ⟨q, 0, none⟩) ∧ v4070.heap.size ≤ q ∧ OkB v4158 q 4 := E4158.facts 6 (by decide)
  have h4241 : w.heap.size ≤ q4237 := Nat.le_trans HB l4239
  obtain ⟨t4254, x4256, A4257, m4258, c4259, x4260, A4261, m4262, c4263, e4264, b4255⟩ := put_info4 (E4158.facts 7 (by decide)) p4238 (pair_shape (num_cz _) (num_cz _) f4234)
  have f4265 : ((.pair (.cz Uo_) (.cz Wo_)) : Known).p v4158 (.agg #[.bool x4256, .slice A4257 m4258 c4259, .bool x4260, .slice A4261 m4262 c4263]) := pair_at f4234 e4264.symm
  refine then_normal ?_
  refine wp_seq ?_
  have HB : w.heap.size ≤ v4158.heap.size := T4159.size
  refine wp_plan_seq [.val (.is (.pointer (some ⟨q3413, 0, none⟩))), .val (.az 1048576 p), .val (.is (.pointer (some ⟨q3413, 2, none⟩))), .val (.az 1048576 q), .val (.tup2 (.pair (.cz Uo_) (.cz Wo_)) (.is (.int .i64 0))), .val (.tup2 (.pair (.cz Uo_) (.cz Wo_)) (.is (.int .i64 0))), .val (.pair (.cz Uo_) (.cz Wo_)), .val (.is (.int .i64 0)), .new 4 none, .put 27 128, .val (.is (.int .i64 0))] [] [] w.heap.size (by kernel_rfl) (by kernel_rfl) trivial HB ?_ ?_
  · exact ⟨fun s v h => does_val rfl rfl (x_fld_r0 ((h.same 3 rfl).trans p3414)) rfl,
      fun s v h => does_val rfl rfl (x_load_r0 (h.dep 0 rfl) ((h.far q3413 b4172.lt (by simp)).trans b4172)) (pair_fst (pair_mono f4184 h.mono)),
      fun s v h => does_val rfl rfl (x_fld_r1 ((h.same 3 rfl).trans p3414)) rfl,
      fun s v h => does_val rfl rfl (x_load_r1 (h.dep 2 rfl) ((h.far q3413 b4172.lt (by simp)).trans b4172)) (pair_snd (pair_mono f4184 h.mono)),
      fun s v h => does_call rfl rfl (x_call2 Try.call13) ((ren2 u10 v10 (qmake_a (h.dep 1 rfl) (h.dep 3 rfl) (by omega) (by omega) hq0 (sgn_nz hq0)))),
      fun s v h => does_val rfl rfl (x_move) (h.dep 4 rfl),
      fun s v h => by obtain ⟨r0, r1, e, f0, f1⟩ := tup2_at (h.dep 5 rfl); exact does_val rfl rfl (x_ext e rfl) f0,
      fun s v h => by obtain ⟨r0, r1, e, f0, f1⟩ := tup2_at (h.dep 5 rfl); exact does_val rfl rfl (x_ext e rfl) f1,
      fun s v h => does_new rfl rfl x_alloc_r (okr _ _ _ _ _ _ _ _) rfl (.inl rfl),
      fun s v h => by obtain ⟨q, e1, e2, e3⟩ := new_at (h.dep 8 rfl); exact does_put_r rfl rfl e1 (pair_shape (num_cz _) (num_cz _) (h.dep 6 rfl)) e3 (Nat.le_trans HB e2),
      fun s v h => does_val rfl rfl (x_assign) (h.dep 7 rfl), trivial⟩
  intro g4266 ts v4266 hts E4266
  simp only [fillL, Nat.reduceAdd, List.setIfInBounds_toArray, List.set_cons_zero, List.set_cons_succ] at hts
  subst hts
  have T4267 : Below w.heap.size w v4266 := T4159.trans E4266.below
  have l4268 : q3413 < v4158.heap.size := b4172.lt
  have l4269 : q3419 < v4158.heap.size := b4173.lt
  have l4270 : q3426 < v4158.heap.size := b4174.lt
  have l4271 : q3486 < v4158.heap.size := b4175.lt
  have l4272 : q3531 < v4158.heap.size := b4176.lt
  have l4273 : q3583 < v4158.heap.size := b4177.lt
  have l4274 : q3642 < v4158.heap.size := b4178.lt
  have l4275 : q3708 < v4158.heap.size := b4179.lt
  have l4276 : q3781 < v4158.heap.size := b4180.lt
  have l4277 : q3861 < v4158.heap.size := b4181.lt
  have l4278 : q3948 < v4158.heap.size := b4182.lt
  have l4279 : q4042 < v4158.heap.size := b4183.lt
  have l4280 : q4237 < v4158.heap.size := b4255.lt
  have b4281 : Bx v4266 q3413 29 #[.bool na0, .slice A0 n0 c0, .bool nb0, .slice B0 m0 d0] := (E4266.far q3413 b4172.lt (by simp)).trans b4172
  have b4282 : Bx v4266 q3419 29 #[.bool na1, .slice A1 n1 c1, .bool nb1, .slice B1 m1 d1] := (E4266.far q3419 b4173.lt (by simp)).trans b4173
  have b4283 : Bx v4266 q3426 29 #[.bool na2, .slice A2 n2 c2, .bool nb2, .slice B2 m2 d2] := (E4266.far q3426 b4174.lt (by simp)).trans b4174
  have b4284 : Bx v4266 q3486 t3494 #[.bool x3496, .slice A3497 m3498 c3499, .bool x3500, .slice A3501 m3502 c3503] := (E4266.far q3486 b4175.lt (by simp)).trans b4175
  have b4285 : Bx v4266 q3531 t3540 #[.bool x3542, .slice A3543 m3544 c3545, .bool x3546, .slice A3547 m3548 c3549] := (E4266.far q3531 b4176.lt (by simp)).trans b4176
  have b4286 : Bx v4266 q3583 t3593 #[.bool x3595, .slice A3596 m3597 c3598, .bool x3599, .slice A3600 m3601 c3602] := (E4266.far q3583 b4177.lt (by simp)).trans b4177
  have b4287 : Bx v4266 q3642 t3653 #[.bool x3655, .slice A3656 m3657 c3658, .bool x3659, .slice A3660 m3661 c3662] := (E4266.far q3642 b4178.lt (by simp)).trans b4178
  have b4288 : Bx v4266 q3708 t3720 #[.bool x3722, .slice A3723 m3724 c3725, .bool x3726, .slice A3727 m3728 c3729] := (E4266.far q3708 b4179.lt (by simp)).trans b4179
  have b4289 : Bx v4266 q3781 t3794 #[.bool x3796, .slice A3797 m3798 c3799, .bool x3800, .slice A3801 m3802 c3803] := (E4266.far q3781 b4180.lt (by simp)).trans b4180
  have b4290 : Bx v4266 q3861 t3875 #[.bool x3877, .slice A3878 m3879 c3880, .bool x3881, .slice A3882 m3883 c3884] := (E4266.far q3861 b4181.lt (by simp)).trans b4181
  have b4291 : Bx v4266 q3948 t3963 #[.bool x3965, .slice A3966 m3967 c3968, .bool x3969, .slice A3970 m3971 c3972] := (E4266.far q3948 b4182.lt (by simp)).trans b4182
  have b4292 : Bx v4266 q4042 t4058 #[.bool x4060, .slice A4061 m4062 c4063, .bool x4064, .slice A4065 m4066 c4067] := (E4266.far q4042 b4183.lt (by simp)).trans b4183
  have b4293 : Bx v4266 q4237 t4254 #[.bool x4256, .slice A4257 m4258 c4259, .bool x4260, .slice A4261 m4262 c4263] := (E4266.far q4237 b4255.lt (by simp)).trans b4255
  have f4295 := (pair_mono f4185 E4266.mono)
  have f4345 := (pair_mono f4265 E4266.mono)
  have f4348 : ((.pair (.cz Uo_) (.cz Wo_)) : Known).p v4266 (g4266 6) := E4266.facts 6 (by decide)
  obtain ⟨q4351, p4352, l4353, o4354⟩ : ∃ q, g4266 8 = .pointer (some ⟨q, 0, none⟩) ∧ v4158.heap.size ≤ q ∧ OkB v4266 q 4 := E4266.facts 8 (by decide)
  have h4355 : w.heap.size ≤ q4351 := Nat.le_trans HB l4353
  obtain ⟨t4369, x4371, A4372, m4373, c4374, x4375, A4376, m4377, c4378, e4379, b4370⟩ := put_info4 (E4266.facts 9 (by decide)) p4352 (pair_shape (num_cz _) (num_cz _) f4348)
  have f4380 : ((.pair (.cz Uo_) (.cz Wo_)) : Known).p v4266 (.agg #[.bool x4371, .slice A4372 m4373 c4374, .bool x4375, .slice A4376 m4377 c4378]) := pair_at f4348 e4379.symm
  refine then_normal ?_
  refine wp_seq ?_
  refine wp_seq ?_
  have HB : w.heap.size ≤ v4266.heap.size := T4267.size
  refine wp_plan_seq [.val (.is (.int .i64 0)), .val (.is (.bool false)), .val (.is (.bool false)), .val (.pair (.cz Uo_) (.cz Wo_)), .val (.pair (.cz Uo_) (.cz Wo_)), .val (.is (.bool true)), .val (.is (.bool false)), .val (.is (.bool false))] [] [] w.heap.size (by kernel_rfl) (by kernel_rfl) trivial HB ?_ ?_
  · exact ⟨fun s v h => does_val rfl rfl (x_move) ((h.same 26 rfl).trans e4236),
      fun s v h => does_val rfl rfl (x_neq_err (h.dep 0 rfl) rfl) rfl,
      fun s v h => does_val rfl rfl (x_move) (h.dep 1 rfl),
      fun s v h => does_val rfl (wanted_by (b := false) (want := false) rfl rfl (h.dep 2 rfl)) (x_load_r ((h.same 25 rfl).trans p4238) ((h.far q4237 b4293.lt (by simp)).trans b4293)) (pair_mono f4345 h.mono),
      fun s v h => does_val rfl (wanted_by (b := false) (want := false) rfl rfl (h.dep 2 rfl)) (x_load_r ((h.same 27 rfl).trans p4352) ((h.far q4351 b4370.lt (by simp)).trans b4370)) (pair_mono f4380 h.mono),
      fun s v h => does_call rfl (wanted_by (b := false) (want := false) rfl rfl (h.dep 2 rfl)) (x_call2 Try.call15) (lsame_k (h.dep 3 rfl) (h.dep 4 rfl) rfl rfl),
      fun s v h => does_val rfl (wanted_by (b := false) (want := false) rfl rfl (h.dep 2 rfl)) (x_not (h.dep 5 rfl)) rfl,
      fun s v h => does_val rfl rfl (x_pick (h.dep 2 rfl)) (h.dep 6 rfl), trivial⟩
  intro g4381 ts v4381 hts E4381
  simp only [fillL, Nat.reduceAdd, List.setIfInBounds_toArray, List.set_cons_zero, List.set_cons_succ] at hts
  subst hts
  have T4382 : Below w.heap.size w v4381 := T4267.trans E4381.below
  have l4383 : q3413 < v4266.heap.size := b4281.lt
  have l4384 : q3419 < v4266.heap.size := b4282.lt
  have l4385 : q3426 < v4266.heap.size := b4283.lt
  have l4386 : q3486 < v4266.heap.size := b4284.lt
  have l4387 : q3531 < v4266.heap.size := b4285.lt
  have l4388 : q3583 < v4266.heap.size := b4286.lt
  have l4389 : q3642 < v4266.heap.size := b4287.lt
  have l4390 : q3708 < v4266.heap.size := b4288.lt
  have l4391 : q3781 < v4266.heap.size := b4289.lt
  have l4392 : q3861 < v4266.heap.size := b4290.lt
  have l4393 : q3948 < v4266.heap.size := b4291.lt
  have l4394 : q4042 < v4266.heap.size := b4292.lt
  have l4395 : q4237 < v4266.heap.size := b4293.lt
  have l4396 : q4351 < v4266.heap.size := b4370.lt
  have b4397 : Bx v4381 q3413 29 #[.bool na0, .slice A0 n0 c0, .bool nb0, .slice B0 m0 d0] := (E4381.far q3413 b4281.lt (by simp)).trans b4281
  have b4398 : Bx v4381 q3419 29 #[.bool na1, .slice A1 n1 c1, .bool nb1, .slice B1 m1 d1] := (E4381.far q3419 b4282.lt (by simp)).trans b4282
  have b4399 : Bx v4381 q3426 29 #[.bool na2, .slice A2 n2 c2, .bool nb2, .slice B2 m2 d2] := (E4381.far q3426 b4283.lt (by simp)).trans b4283
  have b4400 : Bx v4381 q3486 t3494 #[.bool x3496, .slice A3497 m3498 c3499, .bool x3500, .slice A3501 m3502 c3503] := (E4381.far q3486 b4284.lt (by simp)).trans b4284
  have b4401 : Bx v4381 q3531 t3540 #[.bool x3542, .slice A3543 m3544 c3545, .bool x3546, .slice A3547 m3548 c3549] := (E4381.far q3531 b4285.lt (by simp)).trans b4285
  have b4402 : Bx v4381 q3583 t3593 #[.bool x3595, .slice A3596 m3597 c3598, .bool x3599, .slice A3600 m3601 c3602] := (E4381.far q3583 b4286.lt (by simp)).trans b4286
  have b4403 : Bx v4381 q3642 t3653 #[.bool x3655, .slice A3656 m3657 c3658, .bool x3659, .slice A3660 m3661 c3662] := (E4381.far q3642 b4287.lt (by simp)).trans b4287
  have b4404 : Bx v4381 q3708 t3720 #[.bool x3722, .slice A3723 m3724 c3725, .bool x3726, .slice A3727 m3728 c3729] := (E4381.far q3708 b4288.lt (by simp)).trans b4288
  have b4405 : Bx v4381 q3781 t3794 #[.bool x3796, .slice A3797 m3798 c3799, .bool x3800, .slice A3801 m3802 c3803] := (E4381.far q3781 b4289.lt (by simp)).trans b4289
  have b4406 : Bx v4381 q3861 t3875 #[.bool x3877, .slice A3878 m3879 c3880, .bool x3881, .slice A3882 m3883 c3884] := (E4381.far q3861 b4290.lt (by simp)).trans b4290
  have b4407 : Bx v4381 q3948 t3963 #[.bool x3965, .slice A3966 m3967 c3968, .bool x3969, .slice A3970 m3971 c3972] := (E4381.far q3948 b4291.lt (by simp)).trans b4291
  have b4408 : Bx v4381 q4042 t4058 #[.bool x4060, .slice A4061 m4062 c4063, .bool x4064, .slice A4065 m4066 c4067] := (E4381.far q4042 b4292.lt (by simp)).trans b4292
  have b4409 : Bx v4381 q4237 t4254 #[.bool x4256, .slice A4257 m4258 c4259, .bool x4260, .slice A4261 m4262 c4263] := (E4381.far q4237 b4293.lt (by simp)).trans b4293
  have b4410 : Bx v4381 q4351 t4369 #[.bool x4371, .slice A4372 m4373 c4374, .bool x4375, .slice A4376 m4377 c4378] := (E4381.far q4351 b4370.lt (by simp)).trans b4370
  have f4412 := (pair_mono f4295 E4381.mono)
  have e4474 : g4381 7 = (.bool false) := E4381.facts 7 (by decide)
  refine then_normal ?_
  refine wp_cond_false e4474 ?_
  refine wp_skip ?_
  refine then_normal ?_
  refine wp_seq ?_
  refine wp_seq ?_
  have HB : w.heap.size ≤ v4381.heap.size := T4382.size
  refine wp_plan_seq [.val (.is (.pointer (some ⟨q3419, 0, none⟩))), .val (.az 1048576 p1), .val (.is (.int .i64 p1.sign)), .val (.is (.bool true))] [] [] w.heap.size (by kernel_rfl) (by kernel_rfl) trivial HB ?_ ?_
  · exact ⟨fun s v h => does_val rfl rfl (x_fld_r0 ((h.same 4 rfl).trans p3420)) rfl,
      fun s v h => does_val rfl rfl (x_load_r0 (h.dep 0 rfl) ((h.far q3419 b4398.lt (by simp)).trans b4398)) (pair_fst (pair_mono f4412 h.mono)),
      fun s v h => does_call rfl rfl (x_call1 Try.call14) (r2sign_k (h.dep 1 rfl) (by omega)),
      fun s v h => does_val rfl rfl (x_eql_int (h.dep 2 rfl) rfl) (congrArg Value.bool dn), trivial⟩
  intro g4475 ts v4475 hts E4475
  simp only [fillL, Nat.reduceAdd, List.setIfInBounds_toArray, List.set_cons_zero, List.set_cons_succ] at hts
  subst hts
  have T4476 : Below w.heap.size w v4475 := T4382.trans E4475.below
  have l4477 : q3413 < v4381.heap.size := b4397.lt
  have l4478 : q3419 < v4381.heap.size := b4398.lt
  have l4479 : q3426 < v4381.heap.size := b4399.lt
  have l4480 : q3486 < v4381.heap.size := b4400.lt
  have l4481 : q3531 < v4381.heap.size := b4401.lt
  have l4482 : q3583 < v4381.heap.size := b4402.lt
  have l4483 : q3642 < v4381.heap.size := b4403.lt
  have l4484 : q3708 < v4381.heap.size := b4404.lt
  have l4485 : q3781 < v4381.heap.size := b4405.lt
  have l4486 : q3861 < v4381.heap.size := b4406.lt
  have l4487 : q3948 < v4381.heap.size := b4407.lt
  have l4488 : q4042 < v4381.heap.size := b4408.lt
  have l4489 : q4237 < v4381.heap.size := b4409.lt
  have l4490 : q4351 < v4381.heap.size := b4410.lt
  have b4491 : Bx v4475 q3413 29 #[.bool na0, .slice A0 n0 c0, .bool nb0, .slice B0 m0 d0] := (E4475.far q3413 b4397.lt (by simp)).trans b4397
  have b4492 : Bx v4475 q3419 29 #[.bool na1, .slice A1 n1 c1, .bool nb1, .slice B1 m1 d1] := (E4475.far q3419 b4398.lt (by simp)).trans b4398
  have b4493 : Bx v4475 q3426 29 #[.bool na2, .slice A2 n2 c2, .bool nb2, .slice B2 m2 d2] := (E4475.far q3426 b4399.lt (by simp)).trans b4399
  have b4494 : Bx v4475 q3486 t3494 #[.bool x3496, .slice A3497 m3498 c3499, .bool x3500, .slice A3501 m3502 c3503] := (E4475.far q3486 b4400.lt (by simp)).trans b4400
  have b4495 : Bx v4475 q3531 t3540 #[.bool x3542, .slice A3543 m3544 c3545, .bool x3546, .slice A3547 m3548 c3549] := (E4475.far q3531 b4401.lt (by simp)).trans b4401
  have b4496 : Bx v4475 q3583 t3593 #[.bool x3595, .slice A3596 m3597 c3598, .bool x3599, .slice A3600 m3601 c3602] := (E4475.far q3583 b4402.lt (by simp)).trans b4402
  have b4497 : Bx v4475 q3642 t3653 #[.bool x3655, .slice A3656 m3657 c3658, .bool x3659, .slice A3660 m3661 c3662] := (E4475.far q3642 b4403.lt (by simp)).trans b4403
  have b4498 : Bx v4475 q3708 t3720 #[.bool x3722, .slice A3723 m3724 c3725, .bool x3726, .slice A3727 m3728 c3729] := (E4475.far q3708 b4404.lt (by simp)).trans b4404
  have b4499 : Bx v4475 q3781 t3794 #[.bool x3796, .slice A3797 m3798 c3799, .bool x3800, .slice A3801 m3802 c3803] := (E4475.far q3781 b4405.lt (by simp)).trans b4405
  have b4500 : Bx v4475 q3861 t3875 #[.bool x3877, .slice A3878 m3879 c3880, .bool x3881, .slice A3882 m3883 c3884] := (E4475.far q3861 b4406.lt (by simp)).trans b4406
  have b4501 : Bx v4475 q3948 t3963 #[.bool x3965, .slice A3966 m3967 c3968, .bool x3969, .slice A3970 m3971 c3972] := (E4475.far q3948 b4407.lt (by simp)).trans b4407
  have b4502 : Bx v4475 q4042 t4058 #[.bool x4060, .slice A4061 m4062 c4063, .bool x4064, .slice A4065 m4066 c4067] := (E4475.far q4042 b4408.lt (by simp)).trans b4408
  have b4503 : Bx v4475 q4237 t4254 #[.bool x4256, .slice A4257 m4258 c4259, .bool x4260, .slice A4261 m4262 c4263] := (E4475.far q4237 b4409.lt (by simp)).trans b4409
  have b4504 : Bx v4475 q4351 t4369 #[.bool x4371, .slice A4372 m4373 c4374, .bool x4375, .slice A4376 m4377 c4378] := (E4475.far q4351 b4410.lt (by simp)).trans b4410
  have e4565 : g4475 3 = (.bool true) := E4475.facts 3 (by decide)
  refine then_normal ?_
  refine wp_cond_true e4565 ?_
  refine wp_seq ?_
  have HB : w.heap.size ≤ v4475.heap.size := T4476.size
  refine wp_plan_seq [.val (.is (.bool true))] [] [] w.heap.size (by kernel_rfl) (by kernel_rfl) trivial HB ?_ ?_
  · exact ⟨fun s v h => does_val rfl rfl (x_assign) rfl, trivial⟩
  intro g4566 ts v4566 hts E4566
  simp only [fillL, List.setIfInBounds_toArray, List.set_cons_zero, List.set_cons_succ] at hts
  subst hts
  have T4567 : Below w.heap.size w v4566 := T4476.trans E4566.below
  have l4568 : q3413 < v4475.heap.size := b4491.lt
  have l4569 : q3419 < v4475.heap.size := b4492.lt
  have l4570 : q3426 < v4475.heap.size := b4493.lt
  have l4571 : q3486 < v4475.heap.size := b4494.lt
  have l4572 : q3531 < v4475.heap.size := b4495.lt
  have l4573 : q3583 < v4475.heap.size := b4496.lt
  have l4574 : q3642 < v4475.heap.size := b4497.lt
  have l4575 : q3708 < v4475.heap.size := b4498.lt
  have l4576 : q3781 < v4475.heap.size := b4499.lt
  have l4577 : q3861 < v4475.heap.size := b4500.lt
  have l4578 : q3948 < v4475.heap.size := b4501.lt
  have l4579 : q4042 < v4475.heap.size := b4502.lt
  have l4580 : q4237 < v4475.heap.size := b4503.lt
  have l4581 : q4351 < v4475.heap.size := b4504.lt
  have e4655 : g4566 0 = (.bool true) := E4566.facts 0 (by decide)
  refine then_normal ?_
  refine wp_ret ?_
  exact bodyPost_ret (results_tmp (t := 6) rfl _ _ _) rfl ⟨_, rfl, e4655, T4567⟩

set_option maxHeartbeats 4000000 in
set_option maxRecDepth 8000 in
theorem rf_b {w : World} {x : Value} {p q : Int} (h0 : Rz 1048576 w x p q) {y : Value} {p1 q1 : Int} (h1 : Rz 1048576 w y p1 q1) {z : Value} {p2 q2 : Int} (h2 : Rz 1048576 w z p2 q2) (db : (decide (0 < q.sign) && decide (0 < q1.sign)) = false)  : Calls Try.prog 10 #[x, y, z] w (Ret (.is (.bool true)) w) := by
  have _u := h2
  obtain ⟨na0, A0, n0, c0, nb0, B0, m0, d0, e0r, hx0, hy0⟩ := Rz.parts h0
  subst e0r
  have la0 := hx0.len
  have lb0 := hy0.len
  obtain ⟨na1, A1, n1, c1, nb1, B1, m1, d1, e1r, hx1, hy1⟩ := Rz.parts h1
  subst e1r
  have la1 := hx1.len
  have lb1 := hy1.len
  obtain ⟨na2, A2, n2, c2, nb2, B2, m2, d2, e2r, hx2, hy2⟩ := Rz.parts h2
  subst e2r
  have la2 := hx2.len
  have lb2 := hy2.len
  have T0 : Below w.heap.size w w := Below.refl _ _
  go_enter Try.func10, Try.ntmps10
  refine wp_seq ?_
  have HB : w.heap.size ≤ w.heap.size := T0.size
  refine wp_plan_seq [.new 4 (some (29, #[.bool na0, .slice A0 n0 c0, .bool nb0, .slice B0 m0 d0])), .new 4 (some (29, #[.bool na1, .slice A1 n1 c1, .bool nb1, .slice B1 m1 d1])), .new 4 (some (29, #[.bool na2, .slice A2 n2 c2, .bool nb2, .slice B2 m2 d2])), .val (.is (.bool false))] [] [] w.heap.size (by kernel_rfl) (by kernel_rfl) trivial HB ?_ ?_
  · exact ⟨fun s v h => does_new rfl rfl (x_box_r (h.same 0 rfl)) (okr _ _ _ _ _ _ _ _) rfl (.inr rfl),
      fun s v h => does_new rfl rfl (x_box_r (h.same 1 rfl)) (okr _ _ _ _ _ _ _ _) rfl (.inr rfl),
      fun s v h => does_new rfl rfl (x_box_r (h.same 2 rfl)) (okr _ _ _ _ _ _ _ _) rfl (.inr rfl),
      fun s v h => does_val rfl rfl (x_assign) rfl, trivial⟩
  intro g4656 ts v4656 hts E4656
  simp only [fillL, Nat.reduceAdd, List.setIfInBounds_toArray, List.set_cons_zero, List.set_cons_succ] at hts
  subst hts
  have T4657 : Below w.heap.size w v4656 := T0.trans E4656.below
  have f4658 := (pair_mono h0 E4656.mono)
  have f4659 := (pair_mono h1 E4656.mono)
  obtain ⟨q4662, p4663, l4664, o4665, b4666⟩ : ∃ q, g4656 0 = .pointer (some ⟨q, 0, none⟩) ∧ w.heap.size ≤ q ∧ OkB v4656 q 4 ∧ Bx v4656 q 29 #[.bool na0, .slice A0 n0 c0, .bool nb0, .slice B0 m0 d0] := E4656.facts 0 (by decide)
  have h4667 : w.heap.size ≤ q4662 := Nat.le_trans HB l4664
  obtain ⟨q4668, p4669, l4670, o4671, b4672⟩ : ∃ q, g4656 1 = .pointer (some ⟨q, 0, none⟩) ∧ w.heap.size ≤ q ∧ OkB v4656 q 4 ∧ Bx v4656 q 29 #[.bool na1, .slice A1 n1 c1, .bool nb1, .slice B1 m1 d1] := E4656.facts 1 (by decide)
  have h4673 : w.heap.size ≤ q4668 := Nat.le_trans HB l4670
  obtain ⟨q4675, p4676, l4677, o4678, b4679⟩ : ∃ q, g4656 2 = .pointer (some ⟨q, 0, none⟩) ∧ w.heap.size ≤ q ∧ OkB v4656 q 4 ∧ Bx v4656 q 29 #[.bool na2, .slice A2 n2 c2, .bool nb2, .slice B2 m2 d2] := E4656.facts 2 (by decide)
  have h4680 : w.heap.size ≤ q4675 := Nat.le_trans HB l4677
  refine then_normal ?_
  refine wp_seq ?_
  refine wp_seq ?_
  have HB : w.heap.size ≤ v4656.heap.size := T4657.size
  refine wp_plan_seq [.val (.is (.bool true)), .val (.is (.bool false))] [] [] w.heap.size (by kernel_rfl) (by kernel_rfl) trivial HB ?_ ?_
  · exact ⟨fun s v h => does_call rfl rfl (x_call0 Try.call16) (lawake_k),
      fun s v h => does_val rfl rfl (x_not (h.dep 0 rfl)) rfl, trivial⟩
  intro g4683 ts v4683 hts E4683
  simp only [fillL, Nat.reduceAdd, List.setIfInBounds_toArray, List.set_cons_zero, List.set_cons_succ] at hts
  subst hts
  have T4684 : Below w.heap.size w v4683 := T4657.trans E4683.below
  have l4685 : q4662 < v4656.heap.size := b4666.lt
  have l4686 : q4668 < v4656.heap.size := b4672.lt
  have l4687 : q4675 < v4656.heap.size := b4679.lt
  have b4688 : Bx v4683 q4662 29 #[.bool na0, .slice A0 n0 c0, .bool nb0, .slice B0 m0 d0] := (E4683.far q4662 b4666.lt (by simp)).trans b4666
  have b4689 : Bx v4683 q4668 29 #[.bool na1, .slice A1 n1 c1, .bool nb1, .slice B1 m1 d1] := (E4683.far q4668 b4672.lt (by simp)).trans b4672
  have b4690 : Bx v4683 q4675 29 #[.bool na2, .slice A2 n2 c2, .bool nb2, .slice B2 m2 d2] := (E4683.far q4675 b4679.lt (by simp)).trans b4679
  have f4691 := (pair_mono f4658 E4683.mono)
  have f4692 := (pair_mono f4659 E4683.mono)
  have e4695 : g4683 1 = (.bool false) := E4683.facts 1 (by decide)
  refine then_normal ?_
  refine wp_cond_false e4695 ?_
  refine wp_skip ?_
  refine then_normal ?_
  refine wp_seq ?_
  refine wp_seq ?_
  have HB : w.heap.size ≤ v4683.heap.size := T4684.size
  refine wp_plan_seq [.val (.pair (.az 1048576 p) (.az 1048576 q)), .val (.pair (.az 1048576 p1) (.az 1048576 q1)), .val (.is (.bool false)), .val (.is (.bool true)), .val (.is (.bool true)), .val (.is undef), .val (.is undef), .val (.is undef), .val (.is (.bool true))] [] [] w.heap.size (by kernel_rfl) (by kernel_rfl) trivial HB ?_ ?_
  · exact ⟨fun s v h => does_val rfl rfl (x_load_r ((h.same 3 rfl).trans p4663) ((h.far q4662 b4688.lt (by simp)).trans b4688)) (pair_mono f4691 h.mono),
      fun s v h => does_val rfl rfl (x_load_r ((h.same 4 rfl).trans p4669) ((h.far q4668 b4689.lt (by simp)).trans b4689)) (pair_mono f4692 h.mono),
      fun s v h => does_call rfl rfl (x_call2 Try.call21) (ret_lit db (lboth_k (h.dep 0 rfl) (h.dep 1 rfl) (by omega) (by omega))),
      fun s v h => does_val rfl rfl (x_not (h.dep 2 rfl)) rfl,
      fun s v h => does_val rfl rfl (x_move) (h.dep 3 rfl),
      fun s v h => does_skip rfl (wanted_by (b := true) (want := false) rfl rfl (h.dep 4 rfl)) rfl,
      fun s v h => does_skip rfl (wanted_by (b := true) (want := false) rfl rfl (h.dep 4 rfl)) rfl,
      fun s v h => does_skip rfl (wanted_by (b := true) (want := false) rfl rfl (h.dep 4 rfl)) rfl,
      fun s v h => does_val rfl rfl (x_pick (h.dep 4 rfl)) rfl, trivial⟩
  intro g4696 ts v4696 hts E4696
  simp only [fillL, Nat.reduceAdd, List.setIfInBounds_toArray, List.set_cons_zero, List.set_cons_succ] at hts
  subst hts
  have T4697 : Below w.heap.size w v4696 := T4684.trans E4696.below
  have l4698 : q4662 < v4683.heap.size := b4688.lt
  have l4699 : q4668 < v4683.heap.size := b4689.lt
  have l4700 : q4675 < v4683.heap.size := b4690.lt
  have b4701 : Bx v4696 q4662 29 #[.bool na0, .slice A0 n0 c0, .bool nb0, .slice B0 m0 d0] := (E4696.far q4662 b4688.lt (by simp)).trans b4688
  have b4702 : Bx v4696 q4668 29 #[.bool na1, .slice A1 n1 c1, .bool nb1, .slice B1 m1 d1] := (E4696.far q4668 b4689.lt (by simp)).trans b4689
  have b4703 : Bx v4696 q4675 29 #[.bool na2, .slice A2 n2 c2, .bool nb2, .slice B2 m2 d2] := (E4696.far q4675 b4690.lt (by simp)).trans b4690
  have e4715 : g4696 8 = (.bool true) := E4696.facts 8 (by decide)
  refine then_normal ?_
  refine wp_cond_true e4715 ?_
  refine wp_seq ?_
  have HB : w.heap.size ≤ v4696.heap.size := T4697.size
  refine wp_plan_seq [.val (.is (.bool true))] [] [] w.heap.size (by kernel_rfl) (by kernel_rfl) trivial HB ?_ ?_
  · exact ⟨fun s v h => does_val rfl rfl (x_assign) rfl, trivial⟩
  intro g4716 ts v4716 hts E4716
  simp only [fillL, List.setIfInBounds_toArray, List.set_cons_zero, List.set_cons_succ] at hts
  subst hts
  have T4717 : Below w.heap.size w v4716 := T4697.trans E4716.below
  have l4718 : q4662 < v4696.heap.size := b4701.lt
  have l4719 : q4668 < v4696.heap.size := b4702.lt
  have l4720 : q4675 < v4696.heap.size := b4703.lt
  have e4729 : g4716 0 = (.bool true) := E4716.facts 0 (by decide)
  refine then_normal ?_
  refine wp_ret ?_
  exact bodyPost_ret (results_tmp (t := 6) rfl _ _ _) rfl ⟨_, rfl, e4729, T4717⟩

set_option maxHeartbeats 4000000 in
set_option maxRecDepth 8000 in
theorem rf_c {w : World} {x : Value} {p q : Int} (h0 : Rz 1048576 w x p q) {y : Value} {p1 q1 : Int} (h1 : Rz 1048576 w y p1 q1) {z : Value} {p2 q2 : Int} (h2 : Rz 1048576 w z p2 q2) (db : (decide (0 < q.sign) && decide (0 < q1.sign)) = true) (dk : decide (0 < q2.sign) = false)  : Calls Try.prog 10 #[x, y, z] w (Ret (.is (.bool true)) w) := by
  obtain ⟨na0, A0, n0, c0, nb0, B0, m0, d0, e0r, hx0, hy0⟩ := Rz.parts h0
  subst e0r
  have la0 := hx0.len
  have lb0 := hy0.len
  obtain ⟨na1, A1, n1, c1, nb1, B1, m1, d1, e1r, hx1, hy1⟩ := Rz.parts h1
  subst e1r
  have la1 := hx1.len
  have lb1 := hy1.len
  obtain ⟨na2, A2, n2, c2, nb2, B2, m2, d2, e2r, hx2, hy2⟩ := Rz.parts h2
  subst e2r
  have la2 := hx2.len
  have lb2 := hy2.len
  have T0 : Below w.heap.size w w := Below.refl _ _
  go_enter Try.func10, Try.ntmps10
  refine wp_seq ?_
  have HB : w.heap.size ≤ w.heap.size := T0.size
  refine wp_plan_seq [.new 4 (some (29, #[.bool na0, .slice A0 n0 c0, .bool nb0, .slice B0 m0 d0])), .new 4 (some (29, #[.bool na1, .slice A1 n1 c1, .bool nb1, .slice B1 m1 d1])), .new 4 (some (29, #[.bool na2, .slice A2 n2 c2, .bool nb2, .slice B2 m2 d2])), .val (.is (.bool false))] [] [] w.heap.size (by kernel_rfl) (by kernel_rfl) trivial HB ?_ ?_
  · exact ⟨fun s v h => does_new rfl rfl (x_box_r (h.same 0 rfl)) (okr _ _ _ _ _ _ _ _) rfl (.inr rfl),
      fun s v h => does_new rfl rfl (x_box_r (h.same 1 rfl)) (okr _ _ _ _ _ _ _ _) rfl (.inr rfl),
      fun s v h => does_new rfl rfl (x_box_r (h.same 2 rfl)) (okr _ _ _ _ _ _ _ _) rfl (.inr rfl),
      fun s v h => does_val rfl rfl (x_assign) rfl, trivial⟩
  intro g4730 ts v4730 hts E4730
  simp only [fillL, Nat.reduceAdd, List.setIfInBounds_toArray, List.set_cons_zero, List.set_cons_succ] at hts
  subst hts
  have T4731 : Below w.heap.size w v4730 := T0.trans E4730.below
  have f4732 := (pair_mono h0 E4730.mono)
  have f4733 := (pair_mono h1 E4730.mono)
  have f4734 := (pair_mono h2 E4730.mono)
  obtain ⟨q4736, p4737, l4738, o4739, b4740⟩ : ∃ q, g4730 0 = .pointer (some ⟨q, 0, none⟩) ∧ w.heap.size ≤ q ∧ OkB v4730 q 4 ∧ Bx v4730 q 29 #[.bool na0, .slice A0 n0 c0, .bool nb0, .slice B0 m0 d0] := E4730.facts 0 (by decide)
  have h4741 : w.heap.size ≤ q4736 := Nat.le_trans HB l4738
  obtain ⟨q4742, p4743, l4744, o4745, b4746⟩ : ∃ q, g4730 1 = .pointer (some ⟨q, 0, none⟩) ∧ w.heap.size ≤ q ∧ OkB v4730 q 4 ∧ Bx v4730 q 29 #[.bool na1, .slice A1 n1 c1, .bool nb1, .slice B1 m1 d1] := E4730.facts 1 (by decide)
  have h4747 : w.heap.size ≤ q4742 := Nat.le_trans HB l4744
  obtain ⟨q4749, p4750, l4751, o4752, b4753⟩ : ∃ q, g4730 2 = .pointer (some ⟨q, 0, none⟩) ∧ w.heap.size ≤ q ∧ OkB v4730 q 4 ∧ Bx v4730 q 29 #[.bool na2, .slice A2 n2 c2, .bool nb2, .slice B2 m2 d2] := E4730.facts 2 (by decide)
  have h4754 : w.heap.size ≤ q4749 := Nat.le_trans HB l4751
  refine then_normal ?_
  refine wp_seq ?_
  refine wp_seq ?_
  have HB : w.heap.size ≤ v4730.heap.size := T4731.size
  refine wp_plan_seq [.val (.is (.bool true)), .val (.is (.bool false))] [] [] w.heap.size (by kernel_rfl) (by kernel_rfl) trivial HB ?_ ?_
  · exact ⟨fun s v h => does_call rfl rfl (x_call0 Try.call16) (lawake_k),
      fun s v h => does_val rfl rfl (x_not (h.dep 0 rfl)) rfl, trivial⟩
  intro g4757 ts v4757 hts E4757
  simp only [fillL, Nat.reduceAdd, List.setIfInBounds_toArray, List.set_cons_zero, List.set_cons_succ] at hts
  subst hts
  have T4758 : Below w.heap.size w v4757 := T4731.trans E4757.below
  have l4759 : q4736 < v4730.heap.size := b4740.lt
  have l4760 : q4742 < v4730.heap.size := b4746.lt
  have l4761 : q4749 < v4730.heap.size := b4753.lt
  have b4762 : Bx v4757 q4736 29 #[.bool na0, .slice A0 n0 c0, .bool nb0, .slice B0 m0 d0] := (E4757.far q4736 b4740.lt (by simp)).trans b4740
  have b4763 : Bx v4757 q4742 29 #[.bool na1, .slice A1 n1 c1, .bool nb1, .slice B1 m1 d1] := (E4757.far q4742 b4746.lt (by simp)).trans b4746
  have b4764 : Bx v4757 q4749 29 #[.bool na2, .slice A2 n2 c2, .bool nb2, .slice B2 m2 d2] := (E4757.far q4749 b4753.lt (by simp)).trans b4753
  have f4765 := (pair_mono f4732 E4757.mono)
  have f4766 := (pair_mono f4733 E4757.mono)
  have f4767 := (pair_mono f4734 E4757.mono)
  have e4769 : g4757 1 = (.bool false) := E4757.facts 1 (by decide)
  refine then_normal ?_
  refine wp_cond_false e4769 ?_
  refine wp_skip ?_
  refine then_normal ?_
  refine wp_seq ?_
  refine wp_seq ?_
  have HB : w.heap.size ≤ v4757.heap.size := T4758.size
  refine wp_plan_seq [.val (.pair (.az 1048576 p) (.az 1048576 q)), .val (.pair (.az 1048576 p1) (.az 1048576 q1)), .val (.is (.bool true)), .val (.is (.bool false)), .val (.is (.bool false)), .val (.pair (.az 1048576 p2) (.az 1048576 q2)), .val (.is (.bool false)), .val (.is (.bool true)), .val (.is (.bool true))] [] [] w.heap.size (by kernel_rfl) (by kernel_rfl) trivial HB ?_ ?_
  · exact ⟨fun s v h => does_val rfl rfl (x_load_r ((h.same 3 rfl).trans p4737) ((h.far q4736 b4762.lt (by simp)).trans b4762)) (pair_mono f4765 h.mono),
      fun s v h => does_val rfl rfl (x_load_r ((h.same 4 rfl).trans p4743) ((h.far q4742 b4763.lt (by simp)).trans b4763)) (pair_mono f4766 h.mono),
      fun s v h => does_call rfl rfl (x_call2 Try.call21) (ret_lit db (lboth_k (h.dep 0 rfl) (h.dep 1 rfl) (by omega) (by omega))),
      fun s v h => does_val rfl rfl (x_not (h.dep 2 rfl)) rfl,
      fun s v h => does_val rfl rfl (x_move) (h.dep 3 rfl),
      fun s v h => does_val rfl (wanted_by (b := false) (want := false) rfl rfl (h.dep 4 rfl)) (x_load_r ((h.same 5 rfl).trans p4750) ((h.far q4749 b4764.lt (by simp)).trans b4764)) (pair_mono f4767 h.mono),
      fun s v h => does_call rfl (wanted_by (b := false) (want := false) rfl rfl (h.dep 4 rfl)) (x_call1 Try.call31) (ret_lit dk (lok_k (h.dep 5 rfl) (by omega))),
      fun s v h => does_val rfl (wanted_by (b := false) (want := false) rfl rfl (h.dep 4 rfl)) (x_not (h.dep 6 rfl)) rfl,
      fun s v h => does_val rfl rfl (x_pick (h.dep 4 rfl)) (h.dep 7 rfl), trivial⟩
  intro g4770 ts v4770 hts E4770
  simp only [fillL, Nat.reduceAdd, List.setIfInBounds_toArray, List.set_cons_zero, List.set_cons_succ] at hts
  subst hts
  have T4771 : Below w.heap.size w v4770 := T4758.trans E4770.below
  have l4772 : q4736 < v4757.heap.size := b4762.lt
  have l4773 : q4742 < v4757.heap.size := b4763.lt
  have l4774 : q4749 < v4757.heap.size := b4764.lt
  have b4775 : Bx v4770 q4736 29 #[.bool na0, .slice A0 n0 c0, .bool nb0, .slice B0 m0 d0] := (E4770.far q4736 b4762.lt (by simp)).trans b4762
  have b4776 : Bx v4770 q4742 29 #[.bool na1, .slice A1 n1 c1, .bool nb1, .slice B1 m1 d1] := (E4770.far q4742 b4763.lt (by simp)).trans b4763
  have b4777 : Bx v4770 q4749 29 #[.bool na2, .slice A2 n2 c2, .bool nb2, .slice B2 m2 d2] := (E4770.far q4749 b4764.lt (by simp)).trans b4764
  have e4789 : g4770 8 = (.bool true) := E4770.facts 8 (by decide)
  refine then_normal ?_
  refine wp_cond_true e4789 ?_
  refine wp_seq ?_
  have HB : w.heap.size ≤ v4770.heap.size := T4771.size
  refine wp_plan_seq [.val (.is (.bool true))] [] [] w.heap.size (by kernel_rfl) (by kernel_rfl) trivial HB ?_ ?_
  · exact ⟨fun s v h => does_val rfl rfl (x_assign) rfl, trivial⟩
  intro g4790 ts v4790 hts E4790
  simp only [fillL, List.setIfInBounds_toArray, List.set_cons_zero, List.set_cons_succ] at hts
  subst hts
  have T4791 : Below w.heap.size w v4790 := T4771.trans E4790.below
  have l4792 : q4736 < v4770.heap.size := b4775.lt
  have l4793 : q4742 < v4770.heap.size := b4776.lt
  have l4794 : q4749 < v4770.heap.size := b4777.lt
  have e4804 : g4790 0 = (.bool true) := E4790.facts 0 (by decide)
  refine then_normal ?_
  refine wp_ret ?_
  exact bodyPost_ret (results_tmp (t := 6) rfl _ _ _) rfl ⟨_, rfl, e4804, T4791⟩

theorem assoc_x {p q p1 q1 p2 q2 n1 d1 n3 d3 : Int} (h1 : q1 ≠ 0) (s1 : n1 * (q * q1) = (p * q1 + p1 * q) * d1) (s3 : n3 * (q1 * q2) = (p1 * q2 + p2 * q1) * d3) : (p * d3 + n3 * q) * (d1 * q2) = (n1 * q2 + p2 * d1) * (q * d3) := by
  have : q1 * ((p * d3 + n3 * q) * (d1 * q2)) = q1 * ((n1 * q2 + p2 * d1) * (q * d3)) := by grind
  exact Int.eq_of_mul_eq_mul_left h1 this
theorem dist_x {p q p1 q1 p2 q2 n3 d3 n7 d7 n8 d8 : Int} (h1 : q1 ≠ 0) (h2 : q2 ≠ 0) (s3 : n3 * (q1 * q2) = (p1 * q2 + p2 * q1) * d3) (s7 : n7 * (q * q1) = (p * p1) * d7) (s8 : n8 * (q * q2) = (p * p2) * d8) : (n7 * d8 + n8 * d7) * (q * d3) = (p * n3) * (d7 * d8) := by
  have : (q1 * q2) * ((n7 * d8 + n8 * d7) * (q * d3)) = (q1 * q2) * ((p * n3) * (d7 * d8)) := by
    have a1 : (q1 * q2) * ((n7 * d8 + n8 * d7) * (q * d3)) = (n7 * (q * q1)) * (d8 * d3 * q2) + (n8 * (q * q2)) * (d7 * d3 * q1) := by grind
    have a2 : (q1 * q2) * ((p * n3) * (d7 * d8)) = (n3 * (q1 * q2)) * (p * d7 * d8) := by grind
    rw [a1, a2, s7, s8, s3]
    grind
  exact Int.eq_of_mul_eq_mul_left (Int.mul_ne_zero h1 h2) this

theorem ratField_law (w : World) (v0 : Value) (x0 : Int × Int) (v1 : Value) (x1 : Int × Int) (v2 : Value) (x2 : Int × Int) (s0_ : Rz 1048576 w v0 x0.1 x0.2) (s1_ : Rz 1048576 w v1 x1.1 x1.2) (s2_ : Rz 1048576 w v2 x2.1 x2.2) :
    Calls Try.prog 10 #[v0, v1, v2] w fun e w' => e = .returned (.bool true) ∧ Below w.heap.size w w' := by
  have fin : Calls Try.prog 10 #[v0, v1, v2] w (Ret (.is (.bool true)) w) := by
    obtain ⟨p, q⟩ := x0
    obtain ⟨p1, q1⟩ := x1
    obtain ⟨p2, q2⟩ := x2
    rcases both_ways q q1 with ⟨hp, hp1, db⟩ | ⟨db, _⟩
    · rcases one_ways q2 with ⟨hp2, dk⟩ | ⟨dk, _⟩
      · have hq0 : q ≠ 0 := by omega
        have hq1 : q1 ≠ 0 := by omega
        have hq2 : q2 ≠ 0 := by omega
        obtain ⟨U1_, u0⟩ : ∃ n, rn ((p * q1) + (p1 * q)) (q * q1) = n := ⟨_, rfl⟩
        obtain ⟨W1_, v0⟩ : ∃ n, rd ((p * q1) + (p1 * q)) (q * q1) = n := ⟨_, rfl⟩
        have PW1_ : 0 < W1_ := by rw [← v0]; exact rd_pos (Int.mul_ne_zero hq0 hq1)
        have ZW1_ : W1_ ≠ 0 := by omega
        have s1 := (r_spec ((p * q1) + (p1 * q)) (q := (q * q1)) (Int.mul_ne_zero hq0 hq1)).2.1
        rw [u0, v0] at s1
        obtain ⟨U3_, u2⟩ : ∃ n, rn ((p1 * q2) + (p2 * q1)) (q1 * q2) = n := ⟨_, rfl⟩
        obtain ⟨W3_, v2⟩ : ∃ n, rd ((p1 * q2) + (p2 * q1)) (q1 * q2) = n := ⟨_, rfl⟩
        have PW3_ : 0 < W3_ := by rw [← v2]; exact rd_pos (Int.mul_ne_zero hq1 hq2)
        have ZW3_ : W3_ ≠ 0 := by omega
        have s3 := (r_spec ((p1 * q2) + (p2 * q1)) (q := (q1 * q2)) (Int.mul_ne_zero hq1 hq2)).2.1
        rw [u2, v2] at s3
        obtain ⟨U4_, u3⟩ : ∃ n, rn ((U1_ * q2) + (p2 * W1_)) (W1_ * q2) = n := ⟨_, rfl⟩
        obtain ⟨W4_, v3⟩ : ∃ n, rd ((U1_ * q2) + (p2 * W1_)) (W1_ * q2) = n := ⟨_, rfl⟩
        have PW4_ : 0 < W4_ := by rw [← v3]; exact rd_pos (Int.mul_ne_zero ZW1_ hq2)
        have ZW4_ : W4_ ≠ 0 := by omega
        obtain ⟨U6_, u5⟩ : ∃ n, rn (p * U3_) (q * W3_) = n := ⟨_, rfl⟩
        obtain ⟨W6_, v5⟩ : ∃ n, rd (p * U3_) (q * W3_) = n := ⟨_, rfl⟩
        have PW6_ : 0 < W6_ := by rw [← v5]; exact rd_pos (Int.mul_ne_zero hq0 ZW3_)
        have ZW6_ : W6_ ≠ 0 := by omega
        obtain ⟨U7_, u6⟩ : ∃ n, rn (p * p1) (q * q1) = n := ⟨_, rfl⟩
        obtain ⟨W7_, v6⟩ : ∃ n, rd (p * p1) (q * q1) = n := ⟨_, rfl⟩
        have PW7_ : 0 < W7_ := by rw [← v6]; exact rd_pos (Int.mul_ne_zero hq0 hq1)
        have ZW7_ : W7_ ≠ 0 := by omega
        have s7 := (r_spec (p * p1) (q := (q * q1)) (Int.mul_ne_zero hq0 hq1)).2.1
        rw [u6, v6] at s7
        obtain ⟨U8_, u7⟩ : ∃ n, rn (p * p2) (q * q2) = n := ⟨_, rfl⟩
        obtain ⟨W8_, v7⟩ : ∃ n, rd (p * p2) (q * q2) = n := ⟨_, rfl⟩
        have PW8_ : 0 < W8_ := by rw [← v7]; exact rd_pos (Int.mul_ne_zero hq0 hq2)
        have ZW8_ : W8_ ≠ 0 := by omega
        have s8 := (r_spec (p * p2) (q := (q * q2)) (Int.mul_ne_zero hq0 hq2)).2.1
        rw [u7, v7] at s8
        obtain ⟨Uo_, u10⟩ : ∃ n, rn p q = n := ⟨_, rfl⟩
        obtain ⟨Wo_, v10⟩ : ∃ n, rd p q = n := ⟨_, rfl⟩
        have PWo_ : 0 < Wo_ := by rw [← v10]; exact rd_pos hq0
        have ZWo_ : Wo_ ≠ 0 := by omega
        have c1 := r_cross (p := ((p1 * q) + (p * q1))) (q := (q1 * q)) (p' := ((p * q1) + (p1 * q))) (q' := (q * q1)) (Int.mul_ne_zero hq1 hq0) (Int.mul_ne_zero hq0 hq1) (by grind)
        have u1 := c1.1.trans u0
        have v1 := c1.2.trans v0
        have c4 := r_cross (p := ((p * W3_) + (U3_ * q))) (q := (q * W3_)) (p' := ((U1_ * q2) + (p2 * W1_))) (q' := (W1_ * q2)) (Int.mul_ne_zero hq0 ZW3_) (Int.mul_ne_zero ZW1_ hq2) (assoc_x hq1 s1 s3)
        have u4 := c4.1.trans u3
        have v4 := c4.2.trans v3
        have c8 := r_cross (p := ((U7_ * W8_) + (U8_ * W7_))) (q := (W7_ * W8_)) (p' := (p * U3_)) (q' := (q * W3_)) (Int.mul_ne_zero ZW7_ ZW8_) (Int.mul_ne_zero hq0 ZW3_) (dist_x hq1 hq2 s3 s7 s8)
        have u8 := c8.1.trans u5
        have v8 := c8.2.trans v5
        have c9 := r_cross (p := ((U1_ * q1) - (p1 * W1_))) (q := (W1_ * q1)) (p' := p) (q' := q) (Int.mul_ne_zero ZW1_ hq1) hq0 (by grind)
        have u9 := c9.1.trans u10
        have v9 := c9.2.trans v10
        by_cases hn1 : p1 = 0
        · exact rf_z s0_ s1_ s2_ hp hp1 hp2 db dk u0 v0 u1 v1 u2 v2 u3 v3 u4 v4 u5 v5 u6 v6 u7 v7 u8 v8 u9 v9 u10 v10 (sign_eq_zero.2 hn1)
        · skip
          have c11 := r_cross (p := (U7_ * q1)) (q := (W7_ * p1)) (p' := p) (q' := q) (Int.mul_ne_zero ZW7_ hn1) hq0 (by grind)
          have u11 := c11.1.trans u10
          have v11 := c11.2.trans v10
          exact rf_a s0_ s1_ s2_ hp hp1 hp2 db dk u0 v0 u1 v1 u2 v2 u3 v3 u4 v4 u5 v5 u6 v6 u7 v7 u8 v8 u9 v9 u10 v10 u11 v11 hn1 (sgn_nz hn1)
      · exact rf_c s0_ s1_ s2_ db dk
    · exact rf_b s0_ s1_ s2_ db
  refine fin.mono fun e w' h => ?_
  obtain ⟨r, e, hr, hB⟩ := h
  have hr : r = .bool true := hr
  exact ⟨by rw [e, hr], hB⟩
end Go.Proofs.Ytdmahjbjlppeaaa
