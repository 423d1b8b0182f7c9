
/- The law RatMakes. -/
import Derived.Test.YtdmahjbjlppeaaaQ5
namespace Go.Proofs.Ytdmahjbjlppeaaa
open Go.RowKit

set_option maxHeartbeats 4000000 in
set_option maxRecDepth 8000 in
theorem rm_a {w : World} {x : Value} {p : Int} (h0 : Az 1048576 w x p) {y : Value} {q : Int} (h1 : Az 1048576 w y q) (hq : q ≠ 0) (d : (q.sign == 0) = false)  : Calls Try.prog 4 #[x, y] w (Ret (.is (.bool true)) w) := by
  have la0 := h0.len
  obtain ⟨na0, A0, n0, c0, M0, rfl, hm0, hz0⟩ := h0.parts
  have la1 := h1.len
  obtain ⟨na1, A1, n1, c1, M1, rfl, hm1, hz1⟩ := h1.parts
  have T0 : Below w.heap.size w w := Below.refl _ _
  go_enter Try.func4, Try.ntmps4
  refine wp_seq ?_
  have HB : w.heap.size ≤ w.heap.size := T0.size
  refine wp_plan_seq [.new 2 (some (24, #[.bool na0, .slice A0 n0 c0])), .new 2 (some (24, #[.bool na1, .slice A1 n1 c1])), .val (.is (.bool false))] [] [] w.heap.size (by kernel_rfl) (by kernel_rfl) trivial HB ?_ ?_
  · exact ⟨fun s v h => does_new rfl rfl (x_box_z (h.same 0 rfl)) (okz _ _ _ _) rfl (.inr rfl),
      fun s v h => does_new rfl rfl (x_box_z (h.same 1 rfl)) (okz _ _ _ _) rfl (.inr rfl),
      fun s v h => does_val rfl rfl (x_assign) rfl, trivial⟩
  intro g1 ts v1 hts E1
  simp only [fillL, Nat.reduceAdd, List.setIfInBounds_toArray, List.set_cons_zero, List.set_cons_succ] at hts
  subst hts
  have T2 : Below w.heap.size w v1 := T0.trans E1.below
  have f3 := (h0.mono E1.mono)
  have f5 := (h1.mono E1.mono)
  obtain ⟨q8, p9, l10, o11, b12⟩ : ∃ q, g1 0 = .pointer (some ⟨q, 0, none⟩) ∧ w.heap.size ≤ q ∧ OkB v1 q 2 ∧ Bx v1 q 24 #[.bool na0, .slice A0 n0 c0] := E1.facts 0 (by decide)
  have h13 : w.heap.size ≤ q8 := Nat.le_trans HB l10
  obtain ⟨q14, p15, l16, o17, b18⟩ : ∃ q, g1 1 = .pointer (some ⟨q, 0, none⟩) ∧ w.heap.size ≤ q ∧ OkB v1 q 2 ∧ Bx v1 q 24 #[.bool na1, .slice A1 n1 c1] := E1.facts 1 (by decide)
  have h19 : w.heap.size ≤ q14 := Nat.le_trans HB l16
  refine then_normal ?_
  refine wp_seq ?_
  have HB : w.heap.size ≤ v1.heap.size := T2.size
  refine wp_plan_seq [.val (.az 1048576 p), .val (.az 1048576 q), .val (.tup2 (.pair (.cz (rn p q)) (.cz (rd p q))) (.is (.int .i64 0))), .val (.tup2 (.pair (.cz (rn p q)) (.cz (rd p q))) (.is (.int .i64 0))), .val (.pair (.cz (rn p q)) (.cz (rd p q))), .val (.is (.int .i64 0)), .new 4 none, .put 5 11, .val (.is (.int .i64 0))] [] [] w.heap.size (by kernel_rfl) (by kernel_rfl) trivial HB ?_ ?_
  · exact ⟨fun s v h => does_val rfl rfl (x_load_z ((h.same 2 rfl).trans p9) ((h.far q8 b12.lt (by simp)).trans b12)) (f3.mono h.mono),
      fun s v h => does_val rfl rfl (x_load_z ((h.same 3 rfl).trans p15) ((h.far q14 b18.lt (by simp)).trans b18)) (f5.mono h.mono),
      fun s v h => does_call rfl rfl (x_call2 Try.call13) (qmake_a (h.dep 0 rfl) (h.dep 1 rfl) (by omega) (by omega) hq d),
      fun s v h => does_val rfl rfl (x_move) (h.dep 2 rfl),
      fun s v h => by obtain ⟨r0, r1, e, f0, f1⟩ := tup2_at (h.dep 3 rfl); exact does_val rfl rfl (x_ext e rfl) f0,
      fun s v h => by obtain ⟨r0, r1, e, f0, f1⟩ := tup2_at (h.dep 3 rfl); exact does_val rfl rfl (x_ext e rfl) f1,
      fun s v h => does_new rfl rfl x_alloc_r (okr _ _ _ _ _ _ _ _) rfl (.inl rfl),
      fun s v h => by obtain ⟨q, e1, e2, e3⟩ := new_at (h.dep 6 rfl); exact does_put_r rfl rfl e1 (pair_shape (num_cz _) (num_cz _) (h.dep 4 rfl)) e3 (Nat.le_trans HB e2),
      fun s v h => does_val rfl rfl (x_assign) (h.dep 5 rfl), trivial⟩
  intro g21 ts v21 hts E21
  simp only [fillL, Nat.reduceAdd, List.setIfInBounds_toArray, List.set_cons_zero, List.set_cons_succ] at hts
  subst hts
  have T22 : Below w.heap.size w v21 := T2.trans E21.below
  have l23 : q8 < v1.heap.size := b12.lt
  have l24 : q14 < v1.heap.size := b18.lt
  have b25 : Bx v21 q8 24 #[.bool na0, .slice A0 n0 c0] := (E21.far q8 b12.lt (by simp)).trans b12
  have b26 : Bx v21 q14 24 #[.bool na1, .slice A1 n1 c1] := (E21.far q14 b18.lt (by simp)).trans b18
  have f27 := (f3.mono E21.mono)
  have f29 := (f5.mono E21.mono)
  have f33 : ((.pair (.cz (rn p q)) (.cz (rd p q))) : Known).p v21 (g21 4) := E21.facts 4 (by decide)
  have e35 : g21 8 = (.int .i64 0) := E21.facts 8 (by decide)
  obtain ⟨q36, p37, l38, o39⟩ : ∃ q, g21 6 = .pointer (some ⟨q, 0, none⟩) ∧ v1.heap.size ≤ q ∧ OkB v21 q 4 := E21.facts 6 (by decide)
  have h40 : w.heap.size ≤ q36 := Nat.le_trans HB l38
  obtain ⟨t43, x45, A46, m47, c48, x49, A50, m51, c52, e53, b44⟩ := put_info4 (E21.facts 7 (by decide)) p37 (pair_shape (num_cz _) (num_cz _) f33)
  have f54 : ((.pair (.cz (rn p q)) (.cz (rd p q))) : Known).p v21 (.agg #[.bool x45, .slice A46 m47 c48, .bool x49, .slice A50 m51 c52]) := pair_at f33 e53.symm
  refine then_normal ?_
  refine wp_seq ?_
  refine wp_seq ?_
  have HB : w.heap.size ≤ v21.heap.size := T22.size
  refine wp_plan_seq [.val (.az 1048576 q), .val (.is (.int .i64 q.sign)), .val (.is (.bool false))] [] [] w.heap.size (by kernel_rfl) (by kernel_rfl) trivial HB ?_ ?_
  · exact ⟨fun s v h => does_val rfl rfl (x_load_z ((h.same 3 rfl).trans p15) ((h.far q14 b26.lt (by simp)).trans b26)) (f29.mono h.mono),
      fun s v h => does_call rfl rfl (x_call1 Try.call14) (r2sign_k (h.dep 0 rfl) (by omega)),
      fun s v h => does_val rfl rfl (x_eql_int (h.dep 1 rfl) rfl) (congrArg Value.bool d), trivial⟩
  intro g55 ts v55 hts E55
  simp only [fillL, Nat.reduceAdd, List.setIfInBounds_toArray, List.set_cons_zero, List.set_cons_succ] at hts
  subst hts
  have T56 : Below w.heap.size w v55 := T22.trans E55.below
  have l57 : q8 < v21.heap.size := b25.lt
  have l58 : q14 < v21.heap.size := b26.lt
  have l59 : q36 < v21.heap.size := b44.lt
  have b60 : Bx v55 q8 24 #[.bool na0, .slice A0 n0 c0] := (E55.far q8 b25.lt (by simp)).trans b25
  have b61 : Bx v55 q14 24 #[.bool na1, .slice A1 n1 c1] := (E55.far q14 b26.lt (by simp)).trans b26
  have b62 : Bx v55 q36 t43 #[.bool x45, .slice A46 m47 c48, .bool x49, .slice A50 m51 c52] := (E55.far q36 b44.lt (by simp)).trans b44
  have f63 := (f27.mono E55.mono)
  have f65 := (f29.mono E55.mono)
  have f70 := (pair_mono f54 E55.mono)
  have e73 : g55 2 = (.bool false) := E55.facts 2 (by decide)
  refine then_normal ?_
  refine wp_cond_false e73 ?_
  refine wp_skip ?_
  refine then_normal ?_
  refine wp_seq ?_
  have HB : w.heap.size ≤ v55.heap.size := T56.size
  refine wp_plan_any [.val (.is (.int .i64 0)), .val (.is (.bool true)), .val (.is (.bool true)), .val (.pair (.cz (rn p q)) (.cz (rd p q))), .val (.az 1048576 p), .val (.az 1048576 q), .val (.pair (.cz (rn p q)) (.cz (rd p q))), .val (.is (.bool true)), .val (.is (.bool true)), .val (.is (.bool true)), .val (.az 1048576 p), .val (.pair (.cz p) (.cz 1)), .val (.az 1048576 p), .val (.pair (.cz p) (.cz 1)), .val (.is (.bool true)), .val (.is (.bool true)), .val (.is (.bool true)), .val (.is (.bool true)), .val (.is (.bool true)), .val (.is (.bool true))] [] [] w.heap.size (by kernel_rfl) (by kernel_rfl) (by kernel_rfl) trivial HB ?_ ?_
  · exact ⟨fun s v h => does_val rfl rfl (x_move) ((h.same 6 rfl).trans e35),
      fun s v h => does_val rfl rfl (x_eql_err (h.dep 0 rfl) rfl) rfl,
      fun s v h => does_val rfl rfl (x_move) (h.dep 1 rfl),
      fun s v h => does_val rfl (wanted_by (b := true) (want := true) rfl rfl (h.dep 2 rfl)) (x_load_r ((h.same 5 rfl).trans p37) ((h.far q36 b62.lt (by simp)).trans b62)) (pair_mono f70 ((Mono.drew _).trans h.mono)),
      fun s v h => does_val rfl (wanted_by (b := true) (want := true) rfl rfl (h.dep 2 rfl)) (x_load_z ((h.same 2 rfl).trans p9) ((h.far q8 b60.lt (by simp)).trans b60)) (f63.mono ((Mono.drew _).trans h.mono)),
      fun s v h => does_val rfl (wanted_by (b := true) (want := true) rfl rfl (h.dep 2 rfl)) (x_load_z ((h.same 3 rfl).trans p15) ((h.far q14 b61.lt (by simp)).trans b61)) (f65.mono ((Mono.drew _).trans h.mono)),
      fun s v h => does_call rfl (wanted_by (b := true) (want := true) rfl rfl (h.dep 2 rfl)) (x_call2 Try.call17) (r3make_k (h.dep 4 rfl) (h.dep 5 rfl) (by omega) (by omega) hq),
      fun s v h => does_call rfl (wanted_by (b := true) (want := true) rfl rfl (h.dep 2 rfl)) (x_call2 Try.call15) (lsame_k (h.dep 3 rfl) (h.dep 6 rfl) rfl rfl),
      fun s v h => does_val rfl rfl (x_pick (h.dep 2 rfl)) (h.dep 7 rfl),
      fun s v h => does_val rfl rfl (x_move) (h.dep 8 rfl),
      fun s v h => does_val rfl (wanted_by (b := true) (want := true) rfl rfl (h.dep 9 rfl)) (x_load_z ((h.same 2 rfl).trans p9) ((h.far q8 b60.lt (by simp)).trans b60)) (f63.mono ((Mono.drew _).trans h.mono)),
      fun s v h => does_call rfl (wanted_by (b := true) (want := true) rfl rfl (h.dep 9 rfl)) (x_call1 Try.call18) (qof_k (h.dep 10 rfl)),
      fun s v h => does_val rfl (wanted_by (b := true) (want := true) rfl rfl (h.dep 9 rfl)) (x_load_z ((h.same 2 rfl).trans p9) ((h.far q8 b60.lt (by simp)).trans b60)) (f63.mono ((Mono.drew _).trans h.mono)),
      fun s v h => does_call rfl (wanted_by (b := true) (want := true) rfl rfl (h.dep 9 rfl)) (x_call1 Try.call19) (r3of_k (h.dep 12 rfl) (by omega)),
      fun s v h => does_call rfl (wanted_by (b := true) (want := true) rfl rfl (h.dep 9 rfl)) (x_call2 Try.call15) (lsame_k (h.dep 11 rfl) (h.dep 13 rfl) rfl rfl),
      fun s v h => does_val rfl rfl (x_pick (h.dep 9 rfl)) (h.dep 14 rfl),
      fun s v h => does_val rfl rfl (x_move) (h.dep 15 rfl),
      fun s v h => does_call rfl (wanted_by (b := true) (want := true) rfl rfl (h.dep 16 rfl)) (x_call0 Try.call16) (lawake_k),
      fun s v h => does_val rfl rfl (x_pick (h.dep 16 rfl)) (h.dep 17 rfl),
      fun s v h => does_val rfl rfl (x_assign) (h.dep 18 rfl), trivial⟩
  intro g74 ts v74 hts E74
  simp only [fillL, Nat.reduceAdd, List.setIfInBounds_toArray, List.set_cons_zero, List.set_cons_succ] at hts
  subst hts
  have T75 : Below w.heap.size w v74 := (below_toDrew T56).trans E74.below
  have l76 : q8 < v55.heap.size := b60.lt
  have l77 : q14 < v55.heap.size := b61.lt
  have l78 : q36 < v55.heap.size := b62.lt
  have e110 : g74 19 = (.bool true) := E74.facts 19 (by decide)
  refine then_normal ?_
  refine wp_ret ?_
  exact bodyPost_ret (results_tmp (t := 4) rfl _ _ _) rfl ⟨_, rfl, e110, T75⟩

set_option maxHeartbeats 4000000 in
set_option maxRecDepth 8000 in
theorem rm_b {w : World} {x : Value} {p : Int} (h0 : Az 1048576 w x p) {y : Value} {q : Int} (h1 : Az 1048576 w y q) (d : (q.sign == 0) = true)  : Calls Try.prog 4 #[x, y] w (Ret (.is (.bool true)) w) := by
  have la0 := h0.len
  obtain ⟨na0, A0, n0, c0, M0, rfl, hm0, hz0⟩ := h0.parts
  have la1 := h1.len
  obtain ⟨na1, A1, n1, c1, M1, rfl, hm1, hz1⟩ := h1.parts
  have T0 : Below w.heap.size w w := Below.refl _ _
  go_enter Try.func4, Try.ntmps4
  refine wp_seq ?_
  have HB : w.heap.size ≤ w.heap.size := T0.size
  refine wp_plan_seq [.new 2 (some (24, #[.bool na0, .slice A0 n0 c0])), .new 2 (some (24, #[.bool na1, .slice A1 n1 c1])), .val (.is (.bool false))] [] [] w.heap.size (by kernel_rfl) (by kernel_rfl) trivial HB ?_ ?_
  · exact ⟨fun s v h => does_new rfl rfl (x_box_z (h.same 0 rfl)) (okz _ _ _ _) rfl (.inr rfl),
      fun s v h => does_new rfl rfl (x_box_z (h.same 1 rfl)) (okz _ _ _ _) rfl (.inr rfl),
      fun s v h => does_val rfl rfl (x_assign) rfl, trivial⟩
  intro g111 ts v111 hts E111
  simp only [fillL, Nat.reduceAdd, List.setIfInBounds_toArray, List.set_cons_zero, List.set_cons_succ] at hts
  subst hts
  have T112 : Below w.heap.size w v111 := T0.trans E111.below
  have f113 := (h0.mono E111.mono)
  have f115 := (h1.mono E111.mono)
  obtain ⟨q118, p119, l120, o121, b122⟩ : ∃ q, g111 0 = .pointer (some ⟨q, 0, none⟩) ∧ w.heap.size ≤ q ∧ OkB v111 q 2 ∧ Bx v111 q 24 #[.bool na0, .slice A0 n0 c0] := E111.facts 0 (by decide)
  have h123 : w.heap.size ≤ q118 := Nat.le_trans HB l120
  obtain ⟨q124, p125, l126, o127, b128⟩ : ∃ q, g111 1 = .pointer (some ⟨q, 0, none⟩) ∧ w.heap.size ≤ q ∧ OkB v111 q 2 ∧ Bx v111 q 24 #[.bool na1, .slice A1 n1 c1] := E111.facts 1 (by decide)
  have h129 : w.heap.size ≤ q124 := Nat.le_trans HB l126
  refine then_normal ?_
  refine wp_seq ?_
  have HB : w.heap.size ≤ v111.heap.size := T112.size
  refine wp_plan_seq [.val (.az 1048576 p), .val (.az 1048576 q), .val (.tup2 (.pair (.cz 0) (.cz 0)) (.is (.int .i64 11))), .val (.tup2 (.pair (.cz 0) (.cz 0)) (.is (.int .i64 11))), .val (.pair (.cz 0) (.cz 0)), .val (.is (.int .i64 11)), .new 4 none, .put 5 11, .val (.is (.int .i64 11))] [] [] w.heap.size (by kernel_rfl) (by kernel_rfl) trivial HB ?_ ?_
  · exact ⟨fun s v h => does_val rfl rfl (x_load_z ((h.same 2 rfl).trans p119) ((h.far q118 b122.lt (by simp)).trans b122)) (f113.mono h.mono),
      fun s v h => does_val rfl rfl (x_load_z ((h.same 3 rfl).trans p125) ((h.far q124 b128.lt (by simp)).trans b128)) (f115.mono h.mono),
      fun s v h => does_call rfl rfl (x_call2 Try.call13) (qmake_b (h.dep 0 rfl) (h.dep 1 rfl) d),
      fun s v h => does_val rfl rfl (x_move) (h.dep 2 rfl),
      fun s v h => by obtain ⟨r0, r1, e, f0, f1⟩ := tup2_at (h.dep 3 rfl); exact does_val rfl rfl (x_ext e rfl) f0,
      fun s v h => by obtain ⟨r0, r1, e, f0, f1⟩ := tup2_at (h.dep 3 rfl); exact does_val rfl rfl (x_ext e rfl) f1,
      fun s v h => does_new rfl rfl x_alloc_r (okr _ _ _ _ _ _ _ _) rfl (.inl rfl),
      fun s v h => by obtain ⟨q, e1, e2, e3⟩ := new_at (h.dep 6 rfl); exact does_put_r rfl rfl e1 (pair_shape (num_cz _) (num_cz _) (h.dep 4 rfl)) e3 (Nat.le_trans HB e2),
      fun s v h => does_val rfl rfl (x_assign) (h.dep 5 rfl), trivial⟩
  intro g131 ts v131 hts E131
  simp only [fillL, Nat.reduceAdd, List.setIfInBounds_toArray, List.set_cons_zero, List.set_cons_succ] at hts
  subst hts
  have T132 : Below w.heap.size w v131 := T112.trans E131.below
  have l133 : q118 < v111.heap.size := b122.lt
  have l134 : q124 < v111.heap.size := b128.lt
  have b135 : Bx v131 q118 24 #[.bool na0, .slice A0 n0 c0] := (E131.far q118 b122.lt (by simp)).trans b122
  have b136 : Bx v131 q124 24 #[.bool na1, .slice A1 n1 c1] := (E131.far q124 b128.lt (by simp)).trans b128
  have f139 := (f115.mono E131.mono)
  have f143 : ((.pair (.cz 0) (.cz 0)) : Known).p v131 (g131 4) := E131.facts 4 (by decide)
  have e145 : g131 8 = (.int .i64 11) := E131.facts 8 (by decide)
  obtain ⟨q146, p147, l148, o149⟩ : ∃ q, g131 6 = .pointer (some ⟨q, 0, none⟩) ∧ v111.heap.size ≤ q ∧ OkB v131 q 4 := E131.facts 6 (by decide)
  have h150 : w.heap.size ≤ q146 := Nat.le_trans HB l148
  obtain ⟨t153, x155, A156, m157, c158, x159, A160, m161, c162, e163, b154⟩ := put_info4 (E131.facts 7 (by decide)) p147 (pair_shape (num_cz _) (num_cz _) f143)
  have f164 : ((.pair (.cz 0) (.cz 0)) : Known).p v131 (.agg #[.bool x155, .slice A156 m157 c158, .bool x159, .slice A160 m161 c162]) := pair_at f143 e163.symm
  refine then_normal ?_
  refine wp_seq ?_
  refine wp_seq ?_
  have HB : w.heap.size ≤ v131.heap.size := T132.size
  refine wp_plan_seq [.val (.az 1048576 q), .val (.is (.int .i64 q.sign)), .val (.is (.bool true))] [] [] w.heap.size (by kernel_rfl) (by kernel_rfl) trivial HB ?_ ?_
  · exact ⟨fun s v h => does_val rfl rfl (x_load_z ((h.same 3 rfl).trans p125) ((h.far q124 b136.lt (by simp)).trans b136)) (f139.mono h.mono),
      fun s v h => does_call rfl rfl (x_call1 Try.call14) (r2sign_k (h.dep 0 rfl) (by omega)),
      fun s v h => does_val rfl rfl (x_eql_int (h.dep 1 rfl) rfl) (congrArg Value.bool d), trivial⟩
  intro g165 ts v165 hts E165
  simp only [fillL, Nat.reduceAdd, List.setIfInBounds_toArray, List.set_cons_zero, List.set_cons_succ] at hts
  subst hts
  have T166 : Below w.heap.size w v165 := T132.trans E165.below
  have l167 : q118 < v131.heap.size := b135.lt
  have l168 : q124 < v131.heap.size := b136.lt
  have l169 : q146 < v131.heap.size := b154.lt
  have b170 : Bx v165 q118 24 #[.bool na0, .slice A0 n0 c0] := (E165.far q118 b135.lt (by simp)).trans b135
  have b171 : Bx v165 q124 24 #[.bool na1, .slice A1 n1 c1] := (E165.far q124 b136.lt (by simp)).trans b136
  have b172 : Bx v165 q146 t153 #[.bool x155, .slice A156 m157 c158, .bool x159, .slice A160 m161 c162] := (E165.far q146 b154.lt (by simp)).trans b154
  have f180 := (pair_mono f164 E165.mono)
  have e183 : g165 2 = (.bool true) := E165.facts 2 (by decide)
  refine then_normal ?_
  refine wp_cond_true e183 ?_
  refine wp_seq ?_
  have HB : w.heap.size ≤ v165.heap.size := T166.size
  refine wp_plan_seq [.val (.is (.int .i64 11)), .val (.is (.bool true)), .val (.is (.bool true)), .val (.pair (.cz 0) (.cz 0)), .val (.is (.agg #[.bool false, .slice none 0 0, .bool false, .slice none 0 0])), .val (.is (.bool true)), .val (.is (.bool true)), .val (.is (.bool true)), .val (.is (.bool true)), .val (.is (.bool true)), .val (.is (.bool true))] [] [] w.heap.size (by kernel_rfl) (by kernel_rfl) trivial HB ?_ ?_
  · exact ⟨fun s v h => does_val rfl rfl (x_move) ((h.same 6 rfl).trans e145),
      fun s v h => does_val rfl rfl (x_eql_err (h.dep 0 rfl) rfl) rfl,
      fun s v h => does_val rfl rfl (x_move) (h.dep 1 rfl),
      fun s v h => does_val rfl (wanted_by (b := true) (want := true) rfl rfl (h.dep 2 rfl)) (x_load_r ((h.same 5 rfl).trans p147) ((h.far q146 b172.lt (by simp)).trans b172)) (pair_mono f180 h.mono),
      fun s v h => does_val rfl (wanted_by (b := true) (want := true) rfl rfl (h.dep 2 rfl)) (x_build_r0) rfl,
      fun s v h => does_call rfl (wanted_by (b := true) (want := true) rfl rfl (h.dep 2 rfl)) (x_call2 Try.call15) (lsame_k (h.dep 3 rfl) (pair_at (rat_zero _) (h.dep 4 rfl)) rfl rfl),
      fun s v h => does_val rfl rfl (x_pick (h.dep 2 rfl)) (h.dep 5 rfl),
      fun s v h => does_val rfl rfl (x_move) (h.dep 6 rfl),
      fun s v h => does_call rfl (wanted_by (b := true) (want := true) rfl rfl (h.dep 7 rfl)) (x_call0 Try.call16) (lawake_k),
      fun s v h => does_val rfl rfl (x_pick (h.dep 7 rfl)) (h.dep 8 rfl),
      fun s v h => does_val rfl rfl (x_assign) (h.dep 9 rfl), trivial⟩
  intro g184 ts v184 hts E184
  simp only [fillL, Nat.reduceAdd, List.setIfInBounds_toArray, List.set_cons_zero, List.set_cons_succ] at hts
  subst hts
  have T185 : Below w.heap.size w v184 := T166.trans E184.below
  have l186 : q118 < v165.heap.size := b170.lt
  have l187 : q124 < v165.heap.size := b171.lt
  have l188 : q146 < v165.heap.size := b172.lt
  have e211 : g184 10 = (.bool true) := E184.facts 10 (by decide)
  refine then_normal ?_
  refine wp_ret ?_
  exact bodyPost_ret (results_tmp (t := 4) rfl _ _ _) rfl ⟨_, rfl, e211, T185⟩

theorem ratMakes_law (w : World) (v0 : Value) (x0 : Int) (v1 : Value) (x1 : Int) (s0 : Az 1048576 w v0 x0) (s1 : Az 1048576 w v1 x1) :
    Calls Try.prog 4 #[v0, v1] w fun e w' => e = .returned (.bool true) ∧ Below w.heap.size w w' := by
  have fin : Calls Try.prog 4 #[v0, v1] w (Ret (.is (.bool true)) w) := by
    by_cases h : x1 = 0
    · exact rm_b s0 s1 (sign_eq_zero.2 h)
    · exact rm_a s0 s1 h (sgn_nz h)
  refine fin.mono fun e w' h => ?_
  obtain ⟨r, e, hr, hB⟩ := h
  have hr : r = .bool true := hr
  exact ⟨by rw [e, hr], hB⟩
end Go.Proofs.Ytdmahjbjlppeaaa
