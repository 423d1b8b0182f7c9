
/- The law RatSums. -/
import Derived.Test.YtdmahjbjlppeaaaQ5
namespace Go.Proofs.Ytdmahjbjlppeaaa
open Go.RowKit

set_option maxHeartbeats 4000000 in
set_option maxRecDepth 8000 in
theorem rs_a {w : World} {x : Value} {p q : Int} (h0 : Rz 1048576 w x p q) {y : Value} {p1 q1 : Int} (h1 : Rz 1048576 w y p1 q1) (hp : 0 < q) (hp1 : 0 < q1) (db : (decide (0 < q.sign) && decide (0 < q1.sign)) = true)  : Calls Try.prog 6 #[x, y] w (Ret (.is (.bool true)) w) := by
  obtain ⟨na0, A0, n0, c0, nb0, B0, m0, d0, e0r, hx0, hy0⟩ := Rz.parts h0
  subst e0r
  have la0 := hx0.len
  have lb0 := hy0.len
  obtain ⟨na1, A1, n1, c1, nb1, B1, m1, d1, e1r, hx1, hy1⟩ := Rz.parts h1
  subst e1r
  have la1 := hx1.len
  have lb1 := hy1.len
  have hq0 : q ≠ 0 := by omega
  have hq1 : q1 ≠ 0 := by omega
  have T0 : Below w.heap.size w w := Below.refl _ _
  go_enter Try.func6, Try.ntmps6
  refine wp_seq ?_
  have HB : w.heap.size ≤ w.heap.size := T0.size
  refine wp_plan_seq [.new 4 (some (29, #[.bool na0, .slice A0 n0 c0, .bool nb0, .slice B0 m0 d0])), .new 4 (some (29, #[.bool na1, .slice A1 n1 c1, .bool nb1, .slice B1 m1 d1])), .val (.is (.bool false))] [] [] w.heap.size (by kernel_rfl) (by kernel_rfl) trivial HB ?_ ?_
  · exact ⟨fun s v h => does_new rfl rfl (x_box_r (h.same 0 rfl)) (okr _ _ _ _ _ _ _ _) rfl (.inr rfl),
      fun s v h => does_new rfl rfl (x_box_r (h.same 1 rfl)) (okr _ _ _ _ _ _ _ _) rfl (.inr rfl),
      fun s v h => does_val rfl rfl (x_assign) rfl, trivial⟩
  intro g351 ts v351 hts E351
  simp only [fillL, Nat.reduceAdd, List.setIfInBounds_toArray, List.set_cons_zero, List.set_cons_succ] at hts
  subst hts
  have T352 : Below w.heap.size w v351 := T0.trans E351.below
  have f353 := (pair_mono h0 E351.mono)
  have f354 := (pair_mono h1 E351.mono)
  obtain ⟨q356, p357, l358, o359, b360⟩ : ∃ q, g351 0 = .pointer (some ⟨q, 0, none⟩) ∧ w.heap.size ≤ q ∧ OkB v351 q 4 ∧ Bx v351 q 29 #[.bool na0, .slice A0 n0 c0, .bool nb0, .slice B0 m0 d0] := E351.facts 0 (by decide)
  have h361 : w.heap.size ≤ q356 := Nat.le_trans HB l358
  obtain ⟨q362, p363, l364, o365, b366⟩ : ∃ q, g351 1 = .pointer (some ⟨q, 0, none⟩) ∧ w.heap.size ≤ q ∧ OkB v351 q 4 ∧ Bx v351 q 29 #[.bool na1, .slice A1 n1 c1, .bool nb1, .slice B1 m1 d1] := E351.facts 1 (by decide)
  have h367 : w.heap.size ≤ q362 := Nat.le_trans HB l364
  refine then_normal ?_
  refine wp_seq ?_
  have HB : w.heap.size ≤ v351.heap.size := T352.size
  refine wp_plan_seq [.val (.pair (.az 1048576 p) (.az 1048576 q)), .val (.pair (.az 1048576 p1) (.az 1048576 q1)), .val (.tup2 (.pair (.cz (rn ((p * q1) + (p1 * q)) (q * q1))) (.cz (rd ((p * q1) + (p1 * q)) (q * q1)))) (.is (.int .i64 0))), .val (.tup2 (.pair (.cz (rn ((p * q1) + (p1 * q)) (q * q1))) (.cz (rd ((p * q1) + (p1 * q)) (q * q1)))) (.is (.int .i64 0))), .val (.pair (.cz (rn ((p * q1) + (p1 * q)) (q * q1))) (.cz (rd ((p * q1) + (p1 * q)) (q * q1)))), .val (.is (.int .i64 0)), .new 4 none, .put 5 13, .val (.is (.int .i64 0))] [] [] w.heap.size (by kernel_rfl) (by kernel_rfl) trivial HB ?_ ?_
  · exact ⟨fun s v h => does_val rfl rfl (x_load_r ((h.same 2 rfl).trans p357) ((h.far q356 b360.lt (by simp)).trans b360)) (pair_mono f353 h.mono),
      fun s v h => does_val rfl rfl (x_load_r ((h.same 3 rfl).trans p363) ((h.far q362 b366.lt (by simp)).trans b366)) (pair_mono f354 h.mono),
      fun s v h => does_call rfl rfl (x_call2 Try.call23) (qadd_k (h.dep 0 rfl) (h.dep 1 rfl) (by omega) (by omega) hq0 hq1 (dv_of hp hp1)),
      fun s v h => does_val rfl rfl (x_move) (h.dep 2 rfl),
      fun s v h => by obtain ⟨r0, r1, e, f0, f1⟩ := tup2_at (h.dep 3 rfl); exact does_val rfl rfl (x_ext e rfl) f0,
      fun s v h => by obtain ⟨r0, r1, e, f0, f1⟩ := tup2_at (h.dep 3 rfl); exact does_val rfl rfl (x_ext e rfl) f1,
      fun s v h => does_new rfl rfl x_alloc_r (okr _ _ _ _ _ _ _ _) rfl (.inl rfl),
      fun s v h => by obtain ⟨q, e1, e2, e3⟩ := new_at (h.dep 6 rfl); exact does_put_r rfl rfl e1 (pair_shape (num_cz _) (num_cz _) (h.dep 4 rfl)) e3 (Nat.le_trans HB e2),
      fun s v h => does_val rfl rfl (x_assign) (h.dep 5 rfl), trivial⟩
  intro g369 ts v369 hts E369
  simp only [fillL, Nat.reduceAdd, List.setIfInBounds_toArray, List.set_cons_zero, List.set_cons_succ] at hts
  subst hts
  have T370 : Below w.heap.size w v369 := T352.trans E369.below
  have l371 : q356 < v351.heap.size := b360.lt
  have l372 : q362 < v351.heap.size := b366.lt
  have b373 : Bx v369 q356 29 #[.bool na0, .slice A0 n0 c0, .bool nb0, .slice B0 m0 d0] := (E369.far q356 b360.lt (by simp)).trans b360
  have b374 : Bx v369 q362 29 #[.bool na1, .slice A1 n1 c1, .bool nb1, .slice B1 m1 d1] := (E369.far q362 b366.lt (by simp)).trans b366
  have f375 := (pair_mono f353 E369.mono)
  have f376 := (pair_mono f354 E369.mono)
  have f379 : ((.pair (.cz (rn ((p * q1) + (p1 * q)) (q * q1))) (.cz (rd ((p * q1) + (p1 * q)) (q * q1)))) : Known).p v369 (g369 4) := E369.facts 4 (by decide)
  have e381 : g369 8 = (.int .i64 0) := E369.facts 8 (by decide)
  obtain ⟨q382, p383, l384, o385⟩ : ∃ q, g369 6 = .pointer (some ⟨q, 0, none⟩) ∧ v351.heap.size ≤ q ∧ OkB v369 q 4 := E369.facts 6 (by decide)
  have h386 : w.heap.size ≤ q382 := Nat.le_trans HB l384
  obtain ⟨t389, x391, A392, m393, c394, x395, A396, m397, c398, e399, b390⟩ := put_info4 (E369.facts 7 (by decide)) p383 (pair_shape (num_cz _) (num_cz _) f379)
  have f400 : ((.pair (.cz (rn ((p * q1) + (p1 * q)) (q * q1))) (.cz (rd ((p * q1) + (p1 * q)) (q * q1)))) : Known).p v369 (.agg #[.bool x391, .slice A392 m393 c394, .bool x395, .slice A396 m397 c398]) := pair_at f379 e399.symm
  refine then_normal ?_
  refine wp_seq ?_
  have HB : w.heap.size ≤ v369.heap.size := T370.size
  refine wp_plan_seq [.val (.pair (.az 1048576 p) (.az 1048576 q)), .val (.pair (.az 1048576 p1) (.az 1048576 q1)), .val (.tup2 (.pair (.cz (rn ((p * q1) - (p1 * q)) (q * q1))) (.cz (rd ((p * q1) - (p1 * q)) (q * q1)))) (.is (.int .i64 0))), .val (.tup2 (.pair (.cz (rn ((p * q1) - (p1 * q)) (q * q1))) (.cz (rd ((p * q1) - (p1 * q)) (q * q1)))) (.is (.int .i64 0))), .val (.pair (.cz (rn ((p * q1) - (p1 * q)) (q * q1))) (.cz (rd ((p * q1) - (p1 * q)) (q * q1)))), .val (.is (.int .i64 0)), .new 4 none, .put 7 19, .val (.is (.int .i64 0))] [] [] w.heap.size (by kernel_rfl) (by kernel_rfl) trivial HB ?_ ?_
  · exact ⟨fun s v h => does_val rfl rfl (x_load_r ((h.same 2 rfl).trans p357) ((h.far q356 b373.lt (by simp)).trans b373)) (pair_mono f375 h.mono),
      fun s v h => does_val rfl rfl (x_load_r ((h.same 3 rfl).trans p363) ((h.far q362 b374.lt (by simp)).trans b374)) (pair_mono f376 h.mono),
      fun s v h => does_call rfl rfl (x_call2 Try.call24) (qsub_k (h.dep 0 rfl) (h.dep 1 rfl) (by omega) (by omega) hq0 hq1 (dv_of hp hp1)),
      fun s v h => does_val rfl rfl (x_move) (h.dep 2 rfl),
      fun s v h => by obtain ⟨r0, r1, e, f0, f1⟩ := tup2_at (h.dep 3 rfl); exact does_val rfl rfl (x_ext e rfl) f0,
      fun s v h => by obtain ⟨r0, r1, e, f0, f1⟩ := tup2_at (h.dep 3 rfl); exact does_val rfl rfl (x_ext e rfl) f1,
      fun s v h => does_new rfl rfl x_alloc_r (okr _ _ _ _ _ _ _ _) rfl (.inl rfl),
      fun s v h => by obtain ⟨q, e1, e2, e3⟩ := new_at (h.dep 6 rfl); exact does_put_r rfl rfl e1 (pair_shape (num_cz _) (num_cz _) (h.dep 4 rfl)) e3 (Nat.le_trans HB e2),
      fun s v h => does_val rfl rfl (x_assign) (h.dep 5 rfl), trivial⟩
  intro g401 ts v401 hts E401
  simp only [fillL, Nat.reduceAdd, List.setIfInBounds_toArray, List.set_cons_zero, List.set_cons_succ] at hts
  subst hts
  have T402 : Below w.heap.size w v401 := T370.trans E401.below
  have l403 : q356 < v369.heap.size := b373.lt
  have l404 : q362 < v369.heap.size := b374.lt
  have l405 : q382 < v369.heap.size := b390.lt
  have b406 : Bx v401 q356 29 #[.bool na0, .slice A0 n0 c0, .bool nb0, .slice B0 m0 d0] := (E401.far q356 b373.lt (by simp)).trans b373
  have b407 : Bx v401 q362 29 #[.bool na1, .slice A1 n1 c1, .bool nb1, .slice B1 m1 d1] := (E401.far q362 b374.lt (by simp)).trans b374
  have b408 : Bx v401 q382 t389 #[.bool x391, .slice A392 m393 c394, .bool x395, .slice A396 m397 c398] := (E401.far q382 b390.lt (by simp)).trans b390
  have f409 := (pair_mono f375 E401.mono)
  have f410 := (pair_mono f376 E401.mono)
  have f414 := (pair_mono f400 E401.mono)
  have f417 : ((.pair (.cz (rn ((p * q1) - (p1 * q)) (q * q1))) (.cz (rd ((p * q1) - (p1 * q)) (q * q1)))) : Known).p v401 (g401 4) := E401.facts 4 (by decide)
  have e419 : g401 8 = (.int .i64 0) := E401.facts 8 (by decide)
  obtain ⟨q420, p421, l422, o423⟩ : ∃ q, g401 6 = .pointer (some ⟨q, 0, none⟩) ∧ v369.heap.size ≤ q ∧ OkB v401 q 4 := E401.facts 6 (by decide)
  have h424 : w.heap.size ≤ q420 := Nat.le_trans HB l422
  obtain ⟨t428, x430, A431, m432, c433, x434, A435, m436, c437, e438, b429⟩ := put_info4 (E401.facts 7 (by decide)) p421 (pair_shape (num_cz _) (num_cz _) f417)
  have f439 : ((.pair (.cz (rn ((p * q1) - (p1 * q)) (q * q1))) (.cz (rd ((p * q1) - (p1 * q)) (q * q1)))) : Known).p v401 (.agg #[.bool x430, .slice A431 m432 c433, .bool x434, .slice A435 m436 c437]) := pair_at f417 e438.symm
  refine then_normal ?_
  refine wp_seq ?_
  refine wp_seq ?_
  have HB : w.heap.size ≤ v401.heap.size := T402.size
  refine wp_plan_seq [.val (.pair (.az 1048576 p) (.az 1048576 q)), .val (.pair (.az 1048576 p1) (.az 1048576 q1)), .val (.is (.bool true)), .val (.is (.bool false))] [] [] w.heap.size (by kernel_rfl) (by kernel_rfl) trivial HB ?_ ?_
  · exact ⟨fun s v h => does_val rfl rfl (x_load_r ((h.same 2 rfl).trans p357) ((h.far q356 b406.lt (by simp)).trans b406)) (pair_mono f409 h.mono),
      fun s v h => does_val rfl rfl (x_load_r ((h.same 3 rfl).trans p363) ((h.far q362 b407.lt (by simp)).trans b407)) (pair_mono f410 h.mono),
      fun s v h => does_call rfl rfl (x_call2 Try.call21) (ret_lit db (lboth_k (h.dep 0 rfl) (h.dep 1 rfl) (by omega) (by omega))),
      fun s v h => does_val rfl rfl (x_not (h.dep 2 rfl)) rfl, trivial⟩
  intro g440 ts v440 hts E440
  simp only [fillL, Nat.reduceAdd, List.setIfInBounds_toArray, List.set_cons_zero, List.set_cons_succ] at hts
  subst hts
  have T441 : Below w.heap.size w v440 := T402.trans E440.below
  have l442 : q356 < v401.heap.size := b406.lt
  have l443 : q362 < v401.heap.size := b407.lt
  have l444 : q382 < v401.heap.size := b408.lt
  have l445 : q420 < v401.heap.size := b429.lt
  have b446 : Bx v440 q356 29 #[.bool na0, .slice A0 n0 c0, .bool nb0, .slice B0 m0 d0] := (E440.far q356 b406.lt (by simp)).trans b406
  have b447 : Bx v440 q362 29 #[.bool na1, .slice A1 n1 c1, .bool nb1, .slice B1 m1 d1] := (E440.far q362 b407.lt (by simp)).trans b407
  have b448 : Bx v440 q382 t389 #[.bool x391, .slice A392 m393 c394, .bool x395, .slice A396 m397 c398] := (E440.far q382 b408.lt (by simp)).trans b408
  have b449 : Bx v440 q420 t428 #[.bool x430, .slice A431 m432 c433, .bool x434, .slice A435 m436 c437] := (E440.far q420 b429.lt (by simp)).trans b429
  have f450 := (pair_mono f409 E440.mono)
  have f451 := (pair_mono f410 E440.mono)
  have f455 := (pair_mono f414 E440.mono)
  have f459 := (pair_mono f439 E440.mono)
  have e463 : g440 3 = (.bool false) := E440.facts 3 (by decide)
  refine then_normal ?_
  refine wp_cond_false e463 ?_
  refine wp_skip ?_
  refine then_normal ?_
  refine wp_seq ?_
  have HB : w.heap.size ≤ v440.heap.size := T441.size
  refine wp_plan_any [.val (.is (.int .i64 0)), .val (.is (.bool true)), .val (.is (.bool true)), .val (.is (.int .i64 0)), .val (.is (.bool true)), .val (.is (.bool true)), .val (.is (.bool true)), .val (.pair (.cz (rn ((p * q1) + (p1 * q)) (q * q1))) (.cz (rd ((p * q1) + (p1 * q)) (q * q1)))), .val (.pair (.az 1048576 p) (.az 1048576 q)), .val (.pair (.az 1048576 p1) (.az 1048576 q1)), .val (.pair (.cz (rn ((p * q1) + (p1 * q)) (q * q1))) (.cz (rd ((p * q1) + (p1 * q)) (q * q1)))), .val (.is (.bool true)), .val (.is (.bool true)), .val (.is (.bool true)), .val (.pair (.cz (rn ((p * q1) - (p1 * q)) (q * q1))) (.cz (rd ((p * q1) - (p1 * q)) (q * q1)))), .val (.pair (.az 1048576 p) (.az 1048576 q)), .val (.pair (.az 1048576 p1) (.az 1048576 q1)), .val (.pair (.cz (rn ((p * q1) - (p1 * q)) (q * q1))) (.cz (rd ((p * q1) - (p1 * q)) (q * q1)))), .val (.is (.bool true)), .val (.is (.bool true)), .val (.is (.bool true)), .val (.is (.bool true)), .val (.is (.bool true)), .val (.is (.bool true))] [] [] w.heap.size (by kernel_rfl) (by kernel_rfl) (by kernel_rfl) trivial HB ?_ ?_
  · exact ⟨fun s v h => does_val rfl rfl (x_move) ((h.same 6 rfl).trans e381),
      fun s v h => does_val rfl rfl (x_eql_err (h.dep 0 rfl) rfl) rfl,
      fun s v h => does_val rfl rfl (x_move) (h.dep 1 rfl),
      fun s v h => does_val rfl (wanted_by (b := true) (want := true) rfl rfl (h.dep 2 rfl)) (x_move) ((h.same 8 rfl).trans e419),
      fun s v h => does_val rfl (wanted_by (b := true) (want := true) rfl rfl (h.dep 2 rfl)) (x_eql_err (h.dep 3 rfl) rfl) rfl,
      fun s v h => does_val rfl rfl (x_pick (h.dep 2 rfl)) (h.dep 4 rfl),
      fun s v h => does_val rfl rfl (x_move) (h.dep 5 rfl),
      fun s v h => does_val rfl (wanted_by (b := true) (want := true) rfl rfl (h.dep 6 rfl)) (x_load_r ((h.same 5 rfl).trans p383) ((h.far q382 b448.lt (by simp)).trans b448)) (pair_mono f455 ((Mono.drew _).trans h.mono)),
      fun s v h => does_val rfl (wanted_by (b := true) (want := true) rfl rfl (h.dep 6 rfl)) (x_load_r ((h.same 2 rfl).trans p357) ((h.far q356 b446.lt (by simp)).trans b446)) (pair_mono f450 ((Mono.drew _).trans h.mono)),
      fun s v h => does_val rfl (wanted_by (b := true) (want := true) rfl rfl (h.dep 6 rfl)) (x_load_r ((h.same 3 rfl).trans p363) ((h.far q362 b447.lt (by simp)).trans b447)) (pair_mono f451 ((Mono.drew _).trans h.mono)),
      fun s v h => does_call rfl (wanted_by (b := true) (want := true) rfl rfl (h.dep 6 rfl)) (x_call2 Try.call25) (r3add_k (h.dep 8 rfl) (h.dep 9 rfl) (by omega) (by omega) hq0 hq1),
      fun s v h => does_call rfl (wanted_by (b := true) (want := true) rfl rfl (h.dep 6 rfl)) (x_call2 Try.call15) (lsame_k (h.dep 7 rfl) (h.dep 10 rfl) rfl rfl),
      fun s v h => does_val rfl rfl (x_pick (h.dep 6 rfl)) (h.dep 11 rfl),
      fun s v h => does_val rfl rfl (x_move) (h.dep 12 rfl),
      fun s v h => does_val rfl (wanted_by (b := true) (want := true) rfl rfl (h.dep 13 rfl)) (x_load_r ((h.same 7 rfl).trans p421) ((h.far q420 b449.lt (by simp)).trans b449)) (pair_mono f459 ((Mono.drew _).trans h.mono)),
      fun s v h => does_val rfl (wanted_by (b := true) (want := true) rfl rfl (h.dep 13 rfl)) (x_load_r ((h.same 2 rfl).trans p357) ((h.far q356 b446.lt (by simp)).trans b446)) (pair_mono f450 ((Mono.drew _).trans h.mono)),
      fun s v h => does_val rfl (wanted_by (b := true) (want := true) rfl rfl (h.dep 13 rfl)) (x_load_r ((h.same 3 rfl).trans p363) ((h.far q362 b447.lt (by simp)).trans b447)) (pair_mono f451 ((Mono.drew _).trans h.mono)),
      fun s v h => does_call rfl (wanted_by (b := true) (want := true) rfl rfl (h.dep 13 rfl)) (x_call2 Try.call26) (r3sub_k (h.dep 15 rfl) (h.dep 16 rfl) (by omega) (by omega) hq0 hq1),
      fun s v h => does_call rfl (wanted_by (b := true) (want := true) rfl rfl (h.dep 13 rfl)) (x_call2 Try.call15) (lsame_k (h.dep 14 rfl) (h.dep 17 rfl) rfl rfl),
      fun s v h => does_val rfl rfl (x_pick (h.dep 13 rfl)) (h.dep 18 rfl),
      fun s v h => does_val rfl rfl (x_move) (h.dep 19 rfl),
      fun s v h => does_call rfl (wanted_by (b := true) (want := true) rfl rfl (h.dep 20 rfl)) (x_call0 Try.call16) (lawake_k),
      fun s v h => does_val rfl rfl (x_pick (h.dep 20 rfl)) (h.dep 21 rfl),
      fun s v h => does_val rfl rfl (x_assign) (h.dep 22 rfl), trivial⟩
  intro g464 ts v464 hts E464
  simp only [fillL, Nat.reduceAdd, List.setIfInBounds_toArray, List.set_cons_zero, List.set_cons_succ] at hts
  subst hts
  have T465 : Below w.heap.size w v464 := (below_toDrew T441).trans E464.below
  have l466 : q356 < v440.heap.size := b446.lt
  have l467 : q362 < v440.heap.size := b447.lt
  have l468 : q382 < v440.heap.size := b448.lt
  have l469 : q420 < v440.heap.size := b449.lt
  have e509 : g464 23 = (.bool true) := E464.facts 23 (by decide)
  refine then_normal ?_
  refine wp_ret ?_
  exact bodyPost_ret (results_tmp (t := 4) rfl _ _ _) rfl ⟨_, rfl, e509, T465⟩

set_option maxHeartbeats 4000000 in
set_option maxRecDepth 8000 in
theorem rs_b {w : World} {x : Value} {p q : Int} (h0 : Rz 1048576 w x p q) {y : Value} {p1 q1 : Int} (h1 : Rz 1048576 w y p1 q1) (db : (decide (0 < q.sign) && decide (0 < q1.sign)) = false) (dv : (decide (q.sign ≤ 0) || decide (q1.sign ≤ 0)) = true)  : Calls Try.prog 6 #[x, y] w (Ret (.is (.bool true)) w) := by
  obtain ⟨na0, A0, n0, c0, nb0, B0, m0, d0, e0r, hx0, hy0⟩ := Rz.parts h0
  subst e0r
  have la0 := hx0.len
  have lb0 := hy0.len
  obtain ⟨na1, A1, n1, c1, nb1, B1, m1, d1, e1r, hx1, hy1⟩ := Rz.parts h1
  subst e1r
  have la1 := hx1.len
  have lb1 := hy1.len
  have T0 : Below w.heap.size w w := Below.refl _ _
  go_enter Try.func6, Try.ntmps6
  refine wp_seq ?_
  have HB : w.heap.size ≤ w.heap.size := T0.size
  refine wp_plan_seq [.new 4 (some (29, #[.bool na0, .slice A0 n0 c0, .bool nb0, .slice B0 m0 d0])), .new 4 (some (29, #[.bool na1, .slice A1 n1 c1, .bool nb1, .slice B1 m1 d1])), .val (.is (.bool false))] [] [] w.heap.size (by kernel_rfl) (by kernel_rfl) trivial HB ?_ ?_
  · exact ⟨fun s v h => does_new rfl rfl (x_box_r (h.same 0 rfl)) (okr _ _ _ _ _ _ _ _) rfl (.inr rfl),
      fun s v h => does_new rfl rfl (x_box_r (h.same 1 rfl)) (okr _ _ _ _ _ _ _ _) rfl (.inr rfl),
      fun s v h => does_val rfl rfl (x_assign) rfl, trivial⟩
  intro g510 ts v510 hts E510
  simp only [fillL, Nat.reduceAdd, List.setIfInBounds_toArray, List.set_cons_zero, List.set_cons_succ] at hts
  subst hts
  have T511 : Below w.heap.size w v510 := T0.trans E510.below
  have f512 := (pair_mono h0 E510.mono)
  have f513 := (pair_mono h1 E510.mono)
  obtain ⟨q515, p516, l517, o518, b519⟩ : ∃ q, g510 0 = .pointer (some ⟨q, 0, none⟩) ∧ w.heap.size ≤ q ∧ OkB v510 q 4 ∧ Bx v510 q 29 #[.bool na0, .slice A0 n0 c0, .bool nb0, .slice B0 m0 d0] := E510.facts 0 (by decide)
  have h520 : w.heap.size ≤ q515 := Nat.le_trans HB l517
  obtain ⟨q521, p522, l523, o524, b525⟩ : ∃ q, g510 1 = .pointer (some ⟨q, 0, none⟩) ∧ w.heap.size ≤ q ∧ OkB v510 q 4 ∧ Bx v510 q 29 #[.bool na1, .slice A1 n1 c1, .bool nb1, .slice B1 m1 d1] := E510.facts 1 (by decide)
  have h526 : w.heap.size ≤ q521 := Nat.le_trans HB l523
  refine then_normal ?_
  refine wp_seq ?_
  have HB : w.heap.size ≤ v510.heap.size := T511.size
  refine wp_plan_seq [.val (.pair (.az 1048576 p) (.az 1048576 q)), .val (.pair (.az 1048576 p1) (.az 1048576 q1)), .val (.tup2 (.pair (.cz 0) (.cz 0)) (.is (.int .i64 30))), .val (.tup2 (.pair (.cz 0) (.cz 0)) (.is (.int .i64 30))), .val (.pair (.cz 0) (.cz 0)), .val (.is (.int .i64 30)), .new 4 none, .put 5 13, .val (.is (.int .i64 30))] [] [] w.heap.size (by kernel_rfl) (by kernel_rfl) trivial HB ?_ ?_
  · exact ⟨fun s v h => does_val rfl rfl (x_load_r ((h.same 2 rfl).trans p516) ((h.far q515 b519.lt (by simp)).trans b519)) (pair_mono f512 h.mono),
      fun s v h => does_val rfl rfl (x_load_r ((h.same 3 rfl).trans p522) ((h.far q521 b525.lt (by simp)).trans b525)) (pair_mono f513 h.mono),
      fun s v h => does_call rfl rfl (x_call2 Try.call23) (qadd_b (h.dep 0 rfl) (h.dep 1 rfl) dv),
      fun s v h => does_val rfl rfl (x_move) (h.dep 2 rfl),
      fun s v h => by obtain ⟨r0, r1, e, f0, f1⟩ := tup2_at (h.dep 3 rfl); exact does_val rfl rfl (x_ext e rfl) f0,
      fun s v h => by obtain ⟨r0, r1, e, f0, f1⟩ := tup2_at (h.dep 3 rfl); exact does_val rfl rfl (x_ext e rfl) f1,
      fun s v h => does_new rfl rfl x_alloc_r (okr _ _ _ _ _ _ _ _) rfl (.inl rfl),
      fun s v h => by obtain ⟨q, e1, e2, e3⟩ := new_at (h.dep 6 rfl); exact does_put_r rfl rfl e1 (pair_shape (num_cz _) (num_cz _) (h.dep 4 rfl)) e3 (Nat.le_trans HB e2),
      fun s v h => does_val rfl rfl (x_assign) (h.dep 5 rfl), trivial⟩
  intro g528 ts v528 hts E528
  simp only [fillL, Nat.reduceAdd, List.setIfInBounds_toArray, List.set_cons_zero, List.set_cons_succ] at hts
  subst hts
  have T529 : Below w.heap.size w v528 := T511.trans E528.below
  have l530 : q515 < v510.heap.size := b519.lt
  have l531 : q521 < v510.heap.size := b525.lt
  have b532 : Bx v528 q515 29 #[.bool na0, .slice A0 n0 c0, .bool nb0, .slice B0 m0 d0] := (E528.far q515 b519.lt (by simp)).trans b519
  have b533 : Bx v528 q521 29 #[.bool na1, .slice A1 n1 c1, .bool nb1, .slice B1 m1 d1] := (E528.far q521 b525.lt (by simp)).trans b525
  have f534 := (pair_mono f512 E528.mono)
  have f535 := (pair_mono f513 E528.mono)
  have f538 : ((.pair (.cz 0) (.cz 0)) : Known).p v528 (g528 4) := E528.facts 4 (by decide)
  have e540 : g528 8 = (.int .i64 30) := E528.facts 8 (by decide)
  obtain ⟨q541, p542, l543, o544⟩ : ∃ q, g528 6 = .pointer (some ⟨q, 0, none⟩) ∧ v510.heap.size ≤ q ∧ OkB v528 q 4 := E528.facts 6 (by decide)
  have h545 : w.heap.size ≤ q541 := Nat.le_trans HB l543
  obtain ⟨t548, x550, A551, m552, c553, x554, A555, m556, c557, e558, b549⟩ := put_info4 (E528.facts 7 (by decide)) p542 (pair_shape (num_cz _) (num_cz _) f538)
  have f559 : ((.pair (.cz 0) (.cz 0)) : Known).p v528 (.agg #[.bool x550, .slice A551 m552 c553, .bool x554, .slice A555 m556 c557]) := pair_at f538 e558.symm
  refine then_normal ?_
  refine wp_seq ?_
  have HB : w.heap.size ≤ v528.heap.size := T529.size
  refine wp_plan_seq [.val (.pair (.az 1048576 p) (.az 1048576 q)), .val (.pair (.az 1048576 p1) (.az 1048576 q1)), .val (.tup2 (.pair (.cz 0) (.cz 0)) (.is (.int .i64 30))), .val (.tup2 (.pair (.cz 0) (.cz 0)) (.is (.int .i64 30))), .val (.pair (.cz 0) (.cz 0)), .val (.is (.int .i64 30)), .new 4 none, .put 7 19, .val (.is (.int .i64 30))] [] [] w.heap.size (by kernel_rfl) (by kernel_rfl) trivial HB ?_ ?_
  · exact ⟨fun s v h => does_val rfl rfl (x_load_r ((h.same 2 rfl).trans p516) ((h.far q515 b532.lt (by simp)).trans b532)) (pair_mono f534 h.mono),
      fun s v h => does_val rfl rfl (x_load_r ((h.same 3 rfl).trans p522) ((h.far q521 b533.lt (by simp)).trans b533)) (pair_mono f535 h.mono),
      fun s v h => does_call rfl rfl (x_call2 Try.call24) (qsub_b (h.dep 0 rfl) (h.dep 1 rfl) dv),
      fun s v h => does_val rfl rfl (x_move) (h.dep 2 rfl),
      fun s v h => by obtain ⟨r0, r1, e, f0, f1⟩ := tup2_at (h.dep 3 rfl); exact does_val rfl rfl (x_ext e rfl) f0,
      fun s v h => by obtain ⟨r0, r1, e, f0, f1⟩ := tup2_at (h.dep 3 rfl); exact does_val rfl rfl (x_ext e rfl) f1,
      fun s v h => does_new rfl rfl x_alloc_r (okr _ _ _ _ _ _ _ _) rfl (.inl rfl),
      fun s v h => by obtain ⟨q, e1, e2, e3⟩ := new_at (h.dep 6 rfl); exact does_put_r rfl rfl e1 (pair_shape (num_cz _) (num_cz _) (h.dep 4 rfl)) e3 (Nat.le_trans HB e2),
      fun s v h => does_val rfl rfl (x_assign) (h.dep 5 rfl), trivial⟩
  intro g560 ts v560 hts E560
  simp only [fillL, Nat.reduceAdd, List.setIfInBounds_toArray, List.set_cons_zero, List.set_cons_succ] at hts
  subst hts
  have T561 : Below w.heap.size w v560 := T529.trans E560.below
  have l562 : q515 < v528.heap.size := b532.lt
  have l563 : q521 < v528.heap.size := b533.lt
  have l564 : q541 < v528.heap.size := b549.lt
  have b565 : Bx v560 q515 29 #[.bool na0, .slice A0 n0 c0, .bool nb0, .slice B0 m0 d0] := (E560.far q515 b532.lt (by simp)).trans b532
  have b566 : Bx v560 q521 29 #[.bool na1, .slice A1 n1 c1, .bool nb1, .slice B1 m1 d1] := (E560.far q521 b533.lt (by simp)).trans b533
  have b567 : Bx v560 q541 t548 #[.bool x550, .slice A551 m552 c553, .bool x554, .slice A555 m556 c557] := (E560.far q541 b549.lt (by simp)).trans b549
  have f568 := (pair_mono f534 E560.mono)
  have f569 := (pair_mono f535 E560.mono)
  have f573 := (pair_mono f559 E560.mono)
  have f576 : ((.pair (.cz 0) (.cz 0)) : Known).p v560 (g560 4) := E560.facts 4 (by decide)
  have e578 : g560 8 = (.int .i64 30) := E560.facts 8 (by decide)
  obtain ⟨q579, p580, l581, o582⟩ : ∃ q, g560 6 = .pointer (some ⟨q, 0, none⟩) ∧ v528.heap.size ≤ q ∧ OkB v560 q 4 := E560.facts 6 (by decide)
  have h583 : w.heap.size ≤ q579 := Nat.le_trans HB l581
  obtain ⟨t587, x589, A590, m591, c592, x593, A594, m595, c596, e597, b588⟩ := put_info4 (E560.facts 7 (by decide)) p580 (pair_shape (num_cz _) (num_cz _) f576)
  have f598 : ((.pair (.cz 0) (.cz 0)) : Known).p v560 (.agg #[.bool x589, .slice A590 m591 c592, .bool x593, .slice A594 m595 c596]) := pair_at f576 e597.symm
  refine then_normal ?_
  refine wp_seq ?_
  refine wp_seq ?_
  have HB : w.heap.size ≤ v560.heap.size := T561.size
  refine wp_plan_seq [.val (.pair (.az 1048576 p) (.az 1048576 q)), .val (.pair (.az 1048576 p1) (.az 1048576 q1)), .val (.is (.bool false)), .val (.is (.bool true))] [] [] w.heap.size (by kernel_rfl) (by kernel_rfl) trivial HB ?_ ?_
  · exact ⟨fun s v h => does_val rfl rfl (x_load_r ((h.same 2 rfl).trans p516) ((h.far q515 b565.lt (by simp)).trans b565)) (pair_mono f568 h.mono),
      fun s v h => does_val rfl rfl (x_load_r ((h.same 3 rfl).trans p522) ((h.far q521 b566.lt (by simp)).trans b566)) (pair_mono f569 h.mono),
      fun s v h => does_call rfl rfl (x_call2 Try.call21) (ret_lit db (lboth_k (h.dep 0 rfl) (h.dep 1 rfl) (by omega) (by omega))),
      fun s v h => does_val rfl rfl (x_not (h.dep 2 rfl)) rfl, trivial⟩
  intro g599 ts v599 hts E599
  simp only [fillL, Nat.reduceAdd, List.setIfInBounds_toArray, List.set_cons_zero, List.set_cons_succ] at hts
  subst hts
  have T600 : Below w.heap.size w v599 := T561.trans E599.below
  have l601 : q515 < v560.heap.size := b565.lt
  have l602 : q521 < v560.heap.size := b566.lt
  have l603 : q541 < v560.heap.size := b567.lt
  have l604 : q579 < v560.heap.size := b588.lt
  have b605 : Bx v599 q515 29 #[.bool na0, .slice A0 n0 c0, .bool nb0, .slice B0 m0 d0] := (E599.far q515 b565.lt (by simp)).trans b565
  have b606 : Bx v599 q521 29 #[.bool na1, .slice A1 n1 c1, .bool nb1, .slice B1 m1 d1] := (E599.far q521 b566.lt (by simp)).trans b566
  have b607 : Bx v599 q541 t548 #[.bool x550, .slice A551 m552 c553, .bool x554, .slice A555 m556 c557] := (E599.far q541 b567.lt (by simp)).trans b567
  have b608 : Bx v599 q579 t587 #[.bool x589, .slice A590 m591 c592, .bool x593, .slice A594 m595 c596] := (E599.far q579 b588.lt (by simp)).trans b588
  have f614 := (pair_mono f573 E599.mono)
  have f618 := (pair_mono f598 E599.mono)
  have e622 : g599 3 = (.bool true) := E599.facts 3 (by decide)
  refine then_normal ?_
  refine wp_cond_true e622 ?_
  refine wp_seq ?_
  have HB : w.heap.size ≤ v599.heap.size := T600.size
  refine wp_plan_seq [.val (.is (.int .i64 30)), .val (.is (.bool true)), .val (.is (.bool true)), .val (.is (.int .i64 30)), .val (.is (.bool true)), .val (.is (.bool true)), .val (.is (.bool true)), .val (.pair (.cz 0) (.cz 0)), .val (.is (.agg #[.bool false, .slice none 0 0, .bool false, .slice none 0 0])), .val (.is (.bool true)), .val (.is (.bool true)), .val (.is (.bool true)), .val (.pair (.cz 0) (.cz 0)), .val (.is (.agg #[.bool false, .slice none 0 0, .bool false, .slice none 0 0])), .val (.is (.bool true)), .val (.is (.bool true)), .val (.is (.bool true)), .val (.is (.bool true)), .val (.is (.bool true)), .val (.is (.bool true))] [] [] w.heap.size (by kernel_rfl) (by kernel_rfl) trivial HB ?_ ?_
  · exact ⟨fun s v h => does_val rfl rfl (x_move) ((h.same 6 rfl).trans e540),
      fun s v h => does_val rfl rfl (x_eql_err (h.dep 0 rfl) rfl) rfl,
      fun s v h => does_val rfl rfl (x_move) (h.dep 1 rfl),
      fun s v h => does_val rfl (wanted_by (b := true) (want := true) rfl rfl (h.dep 2 rfl)) (x_move) ((h.same 8 rfl).trans e578),
      fun s v h => does_val rfl (wanted_by (b := true) (want := true) rfl rfl (h.dep 2 rfl)) (x_eql_err (h.dep 3 rfl) rfl) rfl,
      fun s v h => does_val rfl rfl (x_pick (h.dep 2 rfl)) (h.dep 4 rfl),
      fun s v h => does_val rfl rfl (x_move) (h.dep 5 rfl),
      fun s v h => does_val rfl (wanted_by (b := true) (want := true) rfl rfl (h.dep 6 rfl)) (x_load_r ((h.same 5 rfl).trans p542) ((h.far q541 b607.lt (by simp)).trans b607)) (pair_mono f614 h.mono),
      fun s v h => does_val rfl (wanted_by (b := true) (want := true) rfl rfl (h.dep 6 rfl)) (x_build_r0) rfl,
      fun s v h => does_call rfl (wanted_by (b := true) (want := true) rfl rfl (h.dep 6 rfl)) (x_call2 Try.call15) (lsame_k (h.dep 7 rfl) (pair_at (rat_zero _) (h.dep 8 rfl)) rfl rfl),
      fun s v h => does_val rfl rfl (x_pick (h.dep 6 rfl)) (h.dep 9 rfl),
      fun s v h => does_val rfl rfl (x_move) (h.dep 10 rfl),
      fun s v h => does_val rfl (wanted_by (b := true) (want := true) rfl rfl (h.dep 11 rfl)) (x_load_r ((h.same 7 rfl).trans p580) ((h.far q579 b608.lt (by simp)).trans b608)) (pair_mono f618 h.mono),
      fun s v h => does_val rfl (wanted_by (b := true) (want := true) rfl rfl (h.dep 11 rfl)) (x_build_r0) rfl,
      fun s v h => does_call rfl (wanted_by (b := true) (want := true) rfl rfl (h.dep 11 rfl)) (x_call2 Try.call15) (lsame_k (h.dep 12 rfl) (pair_at (rat_zero _) (h.dep 13 rfl)) rfl rfl),
      fun s v h => does_val rfl rfl (x_pick (h.dep 11 rfl)) (h.dep 14 rfl),
      fun s v h => does_val rfl rfl (x_move) (h.dep 15 rfl),
      fun s v h => does_call rfl (wanted_by (b := true) (want := true) rfl rfl (h.dep 16 rfl)) (x_call0 Try.call16) (lawake_k),
      fun s v h => does_val rfl rfl (x_pick (h.dep 16 rfl)) (h.dep 17 rfl),
      fun s v h => does_val rfl rfl (x_assign) (h.dep 18 rfl), trivial⟩
  intro g623 ts v623 hts E623
  simp only [fillL, Nat.reduceAdd, List.setIfInBounds_toArray, List.set_cons_zero, List.set_cons_succ] at hts
  subst hts
  have T624 : Below w.heap.size w v623 := T600.trans E623.below
  have l625 : q515 < v599.heap.size := b605.lt
  have l626 : q521 < v599.heap.size := b606.lt
  have l627 : q541 < v599.heap.size := b607.lt
  have l628 : q579 < v599.heap.size := b608.lt
  have e664 : g623 19 = (.bool true) := E623.facts 19 (by decide)
  refine then_normal ?_
  refine wp_ret ?_
  exact bodyPost_ret (results_tmp (t := 4) rfl _ _ _) rfl ⟨_, rfl, e664, T624⟩

theorem ratSums_law (w : World) (v0 : Value) (x0 : Int × Int) (v1 : Value) (x1 : Int × Int) (s0 : Rz 1048576 w v0 x0.1 x0.2) (s1 : Rz 1048576 w v1 x1.1 x1.2) :
    Calls Try.prog 6 #[v0, v1] w fun e w' => e = .returned (.bool true) ∧ Below w.heap.size w w' := by
  have fin : Calls Try.prog 6 #[v0, v1] w (Ret (.is (.bool true)) w) := by
    obtain ⟨p, q⟩ := x0
    obtain ⟨p1, q1⟩ := x1
    rcases both_ways q q1 with ⟨hp, hp1, db⟩ | ⟨db, dv⟩
    · exact rs_a s0 s1 hp hp1 db
    · exact rs_b s0 s1 db dv
  refine fin.mono fun e w' h => ?_
  obtain ⟨r, e, hr, hB⟩ := h
  have hr : r = .bool true := hr
  exact ⟨by rw [e, hr], hB⟩
end Go.Proofs.Ytdmahjbjlppeaaa
