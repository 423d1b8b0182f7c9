
/- rat.digits, number. -/
import Derived.Test.YtdmahjbjlppeaaaRegT
import Derived.Test.YtdmahjbjlppeaaaYRead
import Derived.Test.YtdmahjbjlppeaaaQ5
namespace Go.Proofs.Ytdmahjbjlppeaaa
open Go.RowKit

/-- A byte with which a number goes on, that begins at the place fr. -/
def GoodR (s : ByteArray) (fr j : Nat) : Prop := 48 ≤ byteN s j ∧ byteN s j ≤ 57 ∧ (j = fr ∨ byteN s fr ≠ 48)
theorem dig_ways {s : ByteArray} {fr m i : Nat} (HG : Hid (∀ j, fr ≤ j → j < m → GoodR s fr j)) (hm : m = s.size ∨ (m < s.size ∧ byteN s m < 48)) (hms : m ≤ s.size) (h0 : fr ≤ i) (h1 : i ≤ m) :
    (i < m ∧ decide ((i : Int) < (s.size : Int)) = true ∧ decide (48 ≤ (byteN s i : Int)) = true ∧ decide ((byteN s i : Int) ≤ 57) = true ∧ ((i : Int) == (fr : Int)) = true) ∨
    (i < m ∧ decide ((i : Int) < (s.size : Int)) = true ∧ decide (48 ≤ (byteN s i : Int)) = true ∧ decide ((byteN s i : Int) ≤ 57) = true ∧ ((i : Int) == (fr : Int)) = false ∧ ((byteN s fr : Int) == 48) = false) ∨
    (i = m ∧ decide ((i : Int) < (s.size : Int)) = false) ∨ (i = m ∧ decide ((i : Int) < (s.size : Int)) = true ∧ decide (48 ≤ (byteN s i : Int)) = false) := by
  by_cases h : i < m
  · have := HG.out i h0 h
    unfold GoodR at this
    by_cases h2 : i = fr
    · exact .inl ⟨h, decide_eq_true (by omega), decide_eq_true (by omega), decide_eq_true (by omega), beq_iff_eq.2 (by omega)⟩
    · exact .inr (.inl ⟨h, decide_eq_true (by omega), decide_eq_true (by omega), decide_eq_true (by omega), beq_eq_false_iff_ne.2 (by omega), beq_eq_false_iff_ne.2 (by omega)⟩)
  · rcases hm with hm | hm
    · exact .inr (.inr (.inl ⟨by omega, decide_eq_false (by omega)⟩))
    · obtain rfl : i = m := by omega
      exact .inr (.inr (.inr ⟨rfl, decide_eq_true (by omega), decide_eq_false (by omega)⟩))

set_option maxHeartbeats 4000000 in
set_option maxRecDepth 8000 in
theorem qdigits_x {w : World} {s : ByteArray} {fr m : Nat} (hgt : fr < m) (hfm : fr ≤ m) (hms : m ≤ s.size) (hsz : s.size ≤ 1000000) (hm : m = s.size ∨ (m < s.size ∧ byteN s m < 48)) (HG : Hid (∀ j, fr ≤ j → j < m → GoodR s fr j))  : Calls Try.prog 73 #[.string s, .int .i64 (fr : Int)] w (Ret (.tup2 (.is (.int .i64 (m : Int))) (.is (.bool true))) w) := by
  have T0 : Below w.heap.size w w := Below.refl _ _
  go_enter Try.func73, Try.ntmps73
  refine wp_seq ?_
  have HB : w.heap.size ≤ w.heap.size := T0.size
  refine wp_plan_seq [.val (.is (.int .i64 0)), .val (.is (.bool false))] [] [] w.heap.size (by kernel_rfl) (by kernel_rfl) trivial HB ?_ ?_
  · exact ⟨fun s v h => does_val rfl rfl (x_assign) rfl,
      fun s v h => does_val rfl rfl (x_assign) rfl, trivial⟩
  intro g1 ts v1 hts E1
  simp only [fillL, Nat.reduceAdd, List.setIfInBounds_toArray, List.set_cons_zero, List.set_cons_succ] at hts
  subst hts
  have T2 : Below w.heap.size w v1 := T0.trans E1.below
  refine then_normal ?_
  refine wp_seq ?_
  have HB : w.heap.size ≤ v1.heap.size := T2.size
  refine wp_plan_seq [.val (.is (.int .i64 (fr : Int))), .val (.is (.int .i64 (fr : Int)))] [] [] w.heap.size (by kernel_rfl) (by kernel_rfl) trivial HB ?_ ?_
  · exact ⟨fun s v h => does_val rfl rfl (x_move) (h.same 1 rfl),
      fun s v h => does_val rfl rfl (x_assign) (h.dep 0 rfl), trivial⟩
  intro g5 ts v5 hts E5
  simp only [fillL, Nat.reduceAdd, List.setIfInBounds_toArray, List.set_cons_zero, List.set_cons_succ] at hts
  subst hts
  have T6 : Below w.heap.size w v5 := T2.trans E5.below
  have e8 : g5 1 = (.int .i64 (fr : Int)) := E5.facts 1 (by decide)
  refine then_normal ?_
  refine wp_seq ?_
  refine wp_block ?_
  refine wp_loop_v 41 (fun k y wL => ∃ (i1 : Nat), y 0 = (.string s) ∧ y 6 = (.int .i64 (fr : Int)) ∧ y 1 = (.int .i64 (i1 : Int)) ∧ Below w.heap.size w wL ∧ (fr ≤ i1 ∧ i1 ≤ m) ∧ k = m - i1) rfl rfl ⟨_, fr, rfl, e8, rfl, T6, ⟨Nat.le_refl _, hfm⟩, rfl⟩ ?_
  rintro k y9 v9 ⟨i1, p10, p11, p12, T13, ⟨j1, j2⟩, hk⟩
  have hlit : litv 41 y9 = #[y9 0, y9 1, y9 2, y9 3, y9 4, y9 5, y9 6, y9 7, y9 8, y9 9, y9 10, y9 11, y9 12, y9 13, y9 14, y9 15, y9 16, y9 17, y9 18, y9 19, y9 20, y9 21, y9 22, y9 23, y9 24, y9 25, y9 26, y9 27, y9 28, y9 29, y9 30, y9 31, y9 32, y9 33, y9 34, y9 35, y9 36, y9 37, y9 38, y9 39, y9 40] := rfl
  rw [hlit]
  clear hlit
  rcases dig_ways HG hm hms j1 j2 with ⟨hlt, b0, b1, b2, b3⟩ | ⟨hlt, b0, b1, b2, b3, b4⟩ | ⟨hlt, b0⟩ | ⟨hlt, b0, b1⟩
  · skip
    have him : i1 < s.size := by omega
    have hfr : fr < s.size := by omega
    refine wp_seq ?_
    refine wp_seq ?_
    have HB : w.heap.size ≤ v9.heap.size := T13.size
    refine wp_plan_seq [.val (.is (.int .i64 (i1 : Int))), .val (.is (.string s)), .val (.is (.int .i64 (s.size : Int))), .val (.is (.bool true)), .val (.is (.bool true)), .val (.is (.string s)), .val (.is (.int .i64 (i1 : Int))), .val (.is (.int .u8 (byteN s i1 : Int))), .val (.is (.bool true)), .val (.is (.bool true)), .val (.is (.bool true)), .val (.is (.string s)), .val (.is (.int .i64 (i1 : Int))), .val (.is (.int .u8 (byteN s i1 : Int))), .val (.is (.bool true)), .val (.is (.bool true)), .val (.is (.bool true)), .val (.is (.int .i64 (i1 : Int))), .val (.is (.int .i64 (fr : Int))), .val (.is (.bool true)), .val (.is (.bool true)), .val (.is undef), .val (.is undef), .val (.is undef), .val (.is undef), .val (.is (.bool true)), .val (.is (.bool true))] [] [] w.heap.size (by kernel_rfl) (by kernel_rfl) trivial HB ?_ ?_
    · exact ⟨fun s v h => does_val rfl rfl (x_move) ((h.same 1 rfl).trans p12),
      fun s v h => does_val rfl rfl (x_move) ((h.same 0 rfl).trans p10),
      fun s v h => does_val rfl rfl (x_len_str (h.dep 1 rfl)) rfl,
      fun s v h => does_val rfl rfl (x_lss (h.dep 0 rfl) (h.dep 2 rfl)) (congrArg Value.bool b0),
      fun s v h => does_val rfl rfl (x_move) (h.dep 3 rfl),
      fun s v h => does_val rfl (wanted_by (b := true) (want := true) rfl rfl (h.dep 4 rfl)) (x_move) ((h.same 0 rfl).trans p10),
      fun s v h => does_val rfl (wanted_by (b := true) (want := true) rfl rfl (h.dep 4 rfl)) (x_move) ((h.same 1 rfl).trans p12),
      fun s v h => does_val rfl (wanted_by (b := true) (want := true) rfl rfl (h.dep 4 rfl)) (x_index_str (h.dep 5 rfl) (k := i1) (h.dep 6 rfl) (by omega)) rfl,
      fun s v h => does_val rfl (wanted_by (b := true) (want := true) rfl rfl (h.dep 4 rfl)) (x_leq rfl (h.dep 7 rfl)) (congrArg Value.bool b1),
      fun s v h => does_val rfl rfl (x_pick (h.dep 4 rfl)) (h.dep 8 rfl),
      fun s v h => does_val rfl rfl (x_move) (h.dep 9 rfl),
      fun s v h => does_val rfl (wanted_by (b := true) (want := true) rfl rfl (h.dep 10 rfl)) (x_move) ((h.same 0 rfl).trans p10),
      fun s v h => does_val rfl (wanted_by (b := true) (want := true) rfl rfl (h.dep 10 rfl)) (x_move) ((h.same 1 rfl).trans p12),
      fun s v h => does_val rfl (wanted_by (b := true) (want := true) rfl rfl (h.dep 10 rfl)) (x_index_str (h.dep 11 rfl) (k := i1) (h.dep 12 rfl) (by omega)) rfl,
      fun s v h => does_val rfl (wanted_by (b := true) (want := true) rfl rfl (h.dep 10 rfl)) (x_leq (h.dep 13 rfl) rfl) (congrArg Value.bool b2),
      fun s v h => does_val rfl rfl (x_pick (h.dep 10 rfl)) (h.dep 14 rfl),
      fun s v h => does_val rfl rfl (x_move) (h.dep 15 rfl),
      fun s v h => does_val rfl (wanted_by (b := true) (want := true) rfl rfl (h.dep 16 rfl)) (x_move) ((h.same 1 rfl).trans p12),
      fun s v h => does_val rfl (wanted_by (b := true) (want := true) rfl rfl (h.dep 16 rfl)) (x_move) ((h.same 6 rfl).trans p11),
      fun s v h => does_val rfl (wanted_by (b := true) (want := true) rfl rfl (h.dep 16 rfl)) (x_eql_int (h.dep 17 rfl) (h.dep 18 rfl)) (congrArg Value.bool b3),
      fun s v h => does_val rfl (wanted_by (b := true) (want := true) rfl rfl (h.dep 16 rfl)) (x_move) (h.dep 19 rfl),
      fun s v h => does_skip rfl (wanted_by (b := true) (want := false) rfl rfl (h.dep 20 rfl)) rfl,
      fun s v h => does_skip rfl (wanted_by (b := true) (want := false) rfl rfl (h.dep 20 rfl)) rfl,
      fun s v h => does_skip rfl (wanted_by (b := true) (want := false) rfl rfl (h.dep 20 rfl)) rfl,
      fun s v h => does_skip rfl (wanted_by (b := true) (want := false) rfl rfl (h.dep 20 rfl)) rfl,
      fun s v h => does_val rfl (wanted_by (b := true) (want := true) rfl rfl (h.dep 16 rfl)) (x_pick (h.dep 20 rfl)) rfl,
      fun s v h => does_val rfl rfl (x_pick (h.dep 16 rfl)) (h.dep 25 rfl), trivial⟩
    intro g14 ts v14 hts E14
    simp only [fillL, Nat.reduceAdd, List.setIfInBounds_toArray, List.set_cons_zero, List.set_cons_succ] at hts
    subst hts
    have T15 : Below w.heap.size w v14 := T13.trans E14.below
    have e42 : g14 26 = (.bool true) := E14.facts 26 (by decide)
    refine then_normal ?_
    refine wp_cond_true e42 ?_
    refine wp_skip ?_
    refine then_normal ?_
    refine wp_block ?_
    have HB : w.heap.size ≤ v14.heap.size := T15.size
    refine wp_plan_seq [.val (.is (.int .i64 (i1 : Int))), .val (.is (.int .i64 ((i1 + 1 : Nat) : Int))), .val (.is (.int .i64 ((i1 + 1 : Nat) : Int)))] [] [] w.heap.size (by kernel_rfl) (by kernel_rfl) trivial HB ?_ ?_
    · exact ⟨fun s v h => does_val rfl rfl (x_move) ((h.soon 2 1 rfl rfl).trans p12),
      fun s v h => does_val rfl rfl (x_add (h.dep 0 rfl) rfl (by rw [IntKind.wrap_i64]; omega)) (congrArg (Value.int .i64) (by omega)),
      fun s v h => does_val rfl rfl (x_assign) (h.dep 1 rfl), trivial⟩
    intro g43 ts v43 hts E43
    simp only [fillL, Nat.reduceAdd, List.setIfInBounds_toArray, List.set_cons_zero, List.set_cons_succ] at hts
    subst hts
    have T44 : Below w.heap.size w v43 := T15.trans E43.below
    have e47 : g43 2 = (.int .i64 ((i1 + 1 : Nat) : Int)) := E43.facts 2 (by decide)
    refine block_normal ?_
    refine then_normal ?_
    exact ⟨rfl, rfl, _, (by omega), (i1 + 1), p10, p11, e47, T44, ⟨by omega, by omega⟩, rfl⟩
  · skip
    have him : i1 < s.size := by omega
    have hfr : fr < s.size := by omega
    refine wp_seq ?_
    refine wp_seq ?_
    have HB : w.heap.size ≤ v9.heap.size := T13.size
    refine wp_plan_seq [.val (.is (.int .i64 (i1 : Int))), .val (.is (.string s)), .val (.is (.int .i64 (s.size : Int))), .val (.is (.bool true)), .val (.is (.bool true)), .val (.is (.string s)), .val (.is (.int .i64 (i1 : Int))), .val (.is (.int .u8 (byteN s i1 : Int))), .val (.is (.bool true)), .val (.is (.bool true)), .val (.is (.bool true)), .val (.is (.string s)), .val (.is (.int .i64 (i1 : Int))), .val (.is (.int .u8 (byteN s i1 : Int))), .val (.is (.bool true)), .val (.is (.bool true)), .val (.is (.bool true)), .val (.is (.int .i64 (i1 : Int))), .val (.is (.int .i64 (fr : Int))), .val (.is (.bool false)), .val (.is (.bool false)), .val (.is (.string s)), .val (.is (.int .i64 (fr : Int))), .val (.is (.int .u8 (byteN s fr : Int))), .val (.is (.bool true)), .val (.is (.bool true)), .val (.is (.bool true))] [] [] w.heap.size (by kernel_rfl) (by kernel_rfl) trivial HB ?_ ?_
    · exact ⟨fun s v h => does_val rfl rfl (x_move) ((h.same 1 rfl).trans p12),
      fun s v h => does_val rfl rfl (x_move) ((h.same 0 rfl).trans p10),
      fun s v h => does_val rfl rfl (x_len_str (h.dep 1 rfl)) rfl,
      fun s v h => does_val rfl rfl (x_lss (h.dep 0 rfl) (h.dep 2 rfl)) (congrArg Value.bool b0),
      fun s v h => does_val rfl rfl (x_move) (h.dep 3 rfl),
      fun s v h => does_val rfl (wanted_by (b := true) (want := true) rfl rfl (h.dep 4 rfl)) (x_move) ((h.same 0 rfl).trans p10),
      fun s v h => does_val rfl (wanted_by (b := true) (want := true) rfl rfl (h.dep 4 rfl)) (x_move) ((h.same 1 rfl).trans p12),
      fun s v h => does_val rfl (wanted_by (b := true) (want := true) rfl rfl (h.dep 4 rfl)) (x_index_str (h.dep 5 rfl) (k := i1) (h.dep 6 rfl) (by omega)) rfl,
      fun s v h => does_val rfl (wanted_by (b := true) (want := true) rfl rfl (h.dep 4 rfl)) (x_leq rfl (h.dep 7 rfl)) (congrArg Value.bool b1),
      fun s v h => does_val rfl rfl (x_pick (h.dep 4 rfl)) (h.dep 8 rfl),
      fun s v h => does_val rfl rfl (x_move) (h.dep 9 rfl),
      fun s v h => does_val rfl (wanted_by (b := true) (want := true) rfl rfl (h.dep 10 rfl)) (x_move) ((h.same 0 rfl).trans p10),
      fun s v h => does_val rfl (wanted_by (b := true) (want := true) rfl rfl (h.dep 10 rfl)) (x_move) ((h.same 1 rfl).trans p12),
      fun s v h => does_val rfl (wanted_by (b := true) (want := true) rfl rfl (h.dep 10 rfl)) (x_index_str (h.dep 11 rfl) (k := i1) (h.dep 12 rfl) (by omega)) rfl,
      fun s v h => does_val rfl (wanted_by (b := true) (want := true) rfl rfl (h.dep 10 rfl)) (x_leq (h.dep 13 rfl) rfl) (congrArg Value.bool b2),
      fun s v h => does_val rfl rfl (x_pick (h.dep 10 rfl)) (h.dep 14 rfl),
      fun s v h => does_val rfl rfl (x_move) (h.dep 15 rfl),
      fun s v h => does_val rfl (wanted_by (b := true) (want := true) rfl rfl (h.dep 16 rfl)) (x_move) ((h.same 1 rfl).trans p12),
      fun s v h => does_val rfl (wanted_by (b := true) (want := true) rfl rfl (h.dep 16 rfl)) (x_move) ((h.same 6 rfl).trans p11),
      fun s v h => does_val rfl (wanted_by (b := true) (want := true) rfl rfl (h.dep 16 rfl)) (x_eql_int (h.dep 17 rfl) (h.dep 18 rfl)) (congrArg Value.bool b3),
      fun s v h => does_val rfl (wanted_by (b := true) (want := true) rfl rfl (h.dep 16 rfl)) (x_move) (h.dep 19 rfl),
      fun s v h => does_val rfl (wanted_by (b := false) (want := false) rfl rfl (h.dep 20 rfl)) (x_move) ((h.same 0 rfl).trans p10),
      fun s v h => does_val rfl (wanted_by (b := false) (want := false) rfl rfl (h.dep 20 rfl)) (x_move) ((h.same 6 rfl).trans p11),
      fun s v h => does_val rfl (wanted_by (b := false) (want := false) rfl rfl (h.dep 20 rfl)) (x_index_str (h.dep 21 rfl) (k := fr) (h.dep 22 rfl) (by omega)) rfl,
      fun s v h => does_val rfl (wanted_by (b := false) (want := false) rfl rfl (h.dep 20 rfl)) (x_neq_u8 (h.dep 23 rfl) rfl) (congrArg (fun x => Value.bool (!x)) b4),
      fun s v h => does_val rfl (wanted_by (b := true) (want := true) rfl rfl (h.dep 16 rfl)) (x_pick (h.dep 20 rfl)) (h.dep 24 rfl),
      fun s v h => does_val rfl rfl (x_pick (h.dep 16 rfl)) (h.dep 25 rfl), trivial⟩
    intro g48 ts v48 hts E48
    simp only [fillL, Nat.reduceAdd, List.setIfInBounds_toArray, List.set_cons_zero, List.set_cons_succ] at hts
    subst hts
    have T49 : Below w.heap.size w v48 := T13.trans E48.below
    have e76 : g48 26 = (.bool true) := E48.facts 26 (by decide)
    refine then_normal ?_
    refine wp_cond_true e76 ?_
    refine wp_skip ?_
    refine then_normal ?_
    refine wp_block ?_
    have HB : w.heap.size ≤ v48.heap.size := T49.size
    refine wp_plan_seq [.val (.is (.int .i64 (i1 : Int))), .val (.is (.int .i64 ((i1 + 1 : Nat) : Int))), .val (.is (.int .i64 ((i1 + 1 : Nat) : Int)))] [] [] w.heap.size (by kernel_rfl) (by kernel_rfl) trivial HB ?_ ?_
    · exact ⟨fun s v h => does_val rfl rfl (x_move) ((h.soon 2 1 rfl rfl).trans p12),
      fun s v h => does_val rfl rfl (x_add (h.dep 0 rfl) rfl (by rw [IntKind.wrap_i64]; omega)) (congrArg (Value.int .i64) (by omega)),
      fun s v h => does_val rfl rfl (x_assign) (h.dep 1 rfl), trivial⟩
    intro g77 ts v77 hts E77
    simp only [fillL, Nat.reduceAdd, List.setIfInBounds_toArray, List.set_cons_zero, List.set_cons_succ] at hts
    subst hts
    have T78 : Below w.heap.size w v77 := T49.trans E77.below
    have e81 : g77 2 = (.int .i64 ((i1 + 1 : Nat) : Int)) := E77.facts 2 (by decide)
    refine block_normal ?_
    refine then_normal ?_
    exact ⟨rfl, rfl, _, (by omega), (i1 + 1), p10, p11, e81, T78, ⟨by omega, by omega⟩, rfl⟩
  · skip
    rw [← hlt] at hgt
    have hgt2 : decide ((fr : Int) < (i1 : Int)) = true := decide_eq_true (by omega)
    refine wp_seq ?_
    refine wp_seq ?_
    have HB : w.heap.size ≤ v9.heap.size := T13.size
    refine wp_plan_seq [.val (.is (.int .i64 (i1 : Int))), .val (.is (.string s)), .val (.is (.int .i64 (s.size : Int))), .val (.is (.bool false)), .val (.is (.bool false)), .val (.is undef), .val (.is undef), .val (.is undef), .val (.is undef), .val (.is (.bool false)), .val (.is (.bool false)), .val (.is undef), .val (.is undef), .val (.is undef), .val (.is undef), .val (.is (.bool false)), .val (.is (.bool false)), .val (.is undef), .val (.is undef), .val (.is undef), .val (.is undef), .val (.is undef), .val (.is undef), .val (.is undef), .val (.is undef), .val (.is undef), .val (.is (.bool false))] [] [] w.heap.size (by kernel_rfl) (by kernel_rfl) trivial HB ?_ ?_
    · exact ⟨fun s v h => does_val rfl rfl (x_move) ((h.same 1 rfl).trans p12),
      fun s v h => does_val rfl rfl (x_move) ((h.same 0 rfl).trans p10),
      fun s v h => does_val rfl rfl (x_len_str (h.dep 1 rfl)) rfl,
      fun s v h => does_val rfl rfl (x_lss (h.dep 0 rfl) (h.dep 2 rfl)) (congrArg Value.bool b0),
      fun s v h => does_val rfl rfl (x_move) (h.dep 3 rfl),
      fun s v h => does_skip rfl (wanted_by (b := false) (want := true) rfl rfl (h.dep 4 rfl)) rfl,
      fun s v h => does_skip rfl (wanted_by (b := false) (want := true) rfl rfl (h.dep 4 rfl)) rfl,
      fun s v h => does_skip rfl (wanted_by (b := false) (want := true) rfl rfl (h.dep 4 rfl)) rfl,
      fun s v h => does_skip rfl (wanted_by (b := false) (want := true) rfl rfl (h.dep 4 rfl)) rfl,
      fun s v h => does_val rfl rfl (x_pick (h.dep 4 rfl)) rfl,
      fun s v h => does_val rfl rfl (x_move) (h.dep 9 rfl),
      fun s v h => does_skip rfl (wanted_by (b := false) (want := true) rfl rfl (h.dep 10 rfl)) rfl,
      fun s v h => does_skip rfl (wanted_by (b := false) (want := true) rfl rfl (h.dep 10 rfl)) rfl,
      fun s v h => does_skip rfl (wanted_by (b := false) (want := true) rfl rfl (h.dep 10 rfl)) rfl,
      fun s v h => does_skip rfl (wanted_by (b := false) (want := true) rfl rfl (h.dep 10 rfl)) rfl,
      fun s v h => does_val rfl rfl (x_pick (h.dep 10 rfl)) rfl,
      fun s v h => does_val rfl rfl (x_move) (h.dep 15 rfl),
      fun s v h => does_skip rfl (wanted_by (b := false) (want := true) rfl rfl (h.dep 16 rfl)) rfl,
      fun s v h => does_skip rfl (wanted_by (b := false) (want := true) rfl rfl (h.dep 16 rfl)) rfl,
      fun s v h => does_skip rfl (wanted_by (b := false) (want := true) rfl rfl (h.dep 16 rfl)) rfl,
      fun s v h => does_skip rfl (wanted_by (b := false) (want := true) rfl rfl (h.dep 16 rfl)) rfl,
      fun s v h => does_skip rfl (unwanted_by (want := false) rfl rfl (h.dep 20 rfl)) rfl,
      fun s v h => does_skip rfl (unwanted_by (want := false) rfl rfl (h.dep 20 rfl)) rfl,
      fun s v h => does_skip rfl (unwanted_by (want := false) rfl rfl (h.dep 20 rfl)) rfl,
      fun s v h => does_skip rfl (unwanted_by (want := false) rfl rfl (h.dep 20 rfl)) rfl,
      fun s v h => does_skip rfl (wanted_by (b := false) (want := true) rfl rfl (h.dep 16 rfl)) rfl,
      fun s v h => does_val rfl rfl (x_pick (h.dep 16 rfl)) rfl, trivial⟩
    intro g82 ts v82 hts E82
    simp only [fillL, Nat.reduceAdd, List.setIfInBounds_toArray, List.set_cons_zero, List.set_cons_succ] at hts
    subst hts
    have T83 : Below w.heap.size w v82 := T13.trans E82.below
    have e110 : g82 26 = (.bool false) := E82.facts 26 (by decide)
    refine then_normal ?_
    refine wp_cond_false e110 ?_
    refine wp_exit ?_
    refine exit_then ?_
    refine exit_then ?_
    refine exit_block ?_
    refine then_normal ?_
    refine wp_seq ?_
    have HB : w.heap.size ≤ v82.heap.size := T83.size
    refine wp_plan_seq [.val (.is (.int .i64 (i1 : Int))), .val (.is (.int .i64 (i1 : Int))), .val (.is (.int .i64 (fr : Int))), .val (.is (.bool true)), .val (.is (.int .i64 (i1 : Int))), .val (.is (.bool true))] [] [] w.heap.size (by kernel_rfl) (by kernel_rfl) trivial HB ?_ ?_
    · exact ⟨fun s v h => does_val rfl rfl (x_move) ((h.same 1 rfl).trans p12),
      fun s v h => does_val rfl rfl (x_move) ((h.same 1 rfl).trans p12),
      fun s v h => does_val rfl rfl (x_move) ((h.same 6 rfl).trans p11),
      fun s v h => does_val rfl rfl (x_gtr (h.dep 1 rfl) (h.dep 2 rfl)) (congrArg Value.bool hgt2),
      fun s v h => does_val rfl rfl (x_assign) (h.dep 0 rfl),
      fun s v h => does_val rfl rfl (x_assign) (h.dep 3 rfl), trivial⟩
    intro g111 ts v111 hts E111
    simp only [fillL, Nat.reduceAdd, List.setIfInBounds_toArray, List.set_cons_zero, List.set_cons_succ] at hts
    subst hts
    have T112 : Below w.heap.size w v111 := T83.trans E111.below
    have e117 : g111 4 = (.int .i64 (i1 : Int)) := E111.facts 4 (by decide)
    have e118 : g111 5 = (.bool true) := E111.facts 5 (by decide)
    refine then_normal ?_
    refine wp_ret ?_
    exact bodyPost_ret (results_tmp2 (t := 4) (u := 5) rfl _ _ _) rfl ⟨_, rfl, ⟨_, _, rfl, (by have := e117; rw [hlt] at this; exact this), e118⟩, T112⟩
  · skip
    have him : i1 < s.size := by have := of_decide_eq_true b0; omega
    rw [← hlt] at hgt
    have hgt2 : decide ((fr : Int) < (i1 : Int)) = true := decide_eq_true (by omega)
    refine wp_seq ?_
    refine wp_seq ?_
    have HB : w.heap.size ≤ v9.heap.size := T13.size
    refine wp_plan_seq [.val (.is (.int .i64 (i1 : Int))), .val (.is (.string s)), .val (.is (.int .i64 (s.size : Int))), .val (.is (.bool true)), .val (.is (.bool true)), .val (.is (.string s)), .val (.is (.int .i64 (i1 : Int))), .val (.is (.int .u8 (byteN s i1 : Int))), .val (.is (.bool false)), .val (.is (.bool false)), .val (.is (.bool false)), .val (.is undef), .val (.is undef), .val (.is undef), .val (.is undef), .val (.is (.bool false)), .val (.is (.bool false)), .val (.is undef), .val (.is undef), .val (.is undef), .val (.is undef), .val (.is undef), .val (.is undef), .val (.is undef), .val (.is undef), .val (.is undef), .val (.is (.bool false))] [] [] w.heap.size (by kernel_rfl) (by kernel_rfl) trivial HB ?_ ?_
    · exact ⟨fun s v h => does_val rfl rfl (x_move) ((h.same 1 rfl).trans p12),
      fun s v h => does_val rfl rfl (x_move) ((h.same 0 rfl).trans p10),
      fun s v h => does_val rfl rfl (x_len_str (h.dep 1 rfl)) rfl,
      fun s v h => does_val rfl rfl (x_lss (h.dep 0 rfl) (h.dep 2 rfl)) (congrArg Value.bool b0),
      fun s v h => does_val rfl rfl (x_move) (h.dep 3 rfl),
      fun s v h => does_val rfl (wanted_by (b := true) (want := true) rfl rfl (h.dep 4 rfl)) (x_move) ((h.same 0 rfl).trans p10),
      fun s v h => does_val rfl (wanted_by (b := true) (want := true) rfl rfl (h.dep 4 rfl)) (x_move) ((h.same 1 rfl).trans p12),
      fun s v h => does_val rfl (wanted_by (b := true) (want := true) rfl rfl (h.dep 4 rfl)) (x_index_str (h.dep 5 rfl) (k := i1) (h.dep 6 rfl) (by omega)) rfl,
      fun s v h => does_val rfl (wanted_by (b := true) (want := true) rfl rfl (h.dep 4 rfl)) (x_leq rfl (h.dep 7 rfl)) (congrArg Value.bool b1),
      fun s v h => does_val rfl rfl (x_pick (h.dep 4 rfl)) (h.dep 8 rfl),
      fun s v h => does_val rfl rfl (x_move) (h.dep 9 rfl),
      fun s v h => does_skip rfl (wanted_by (b := false) (want := true) rfl rfl (h.dep 10 rfl)) rfl,
      fun s v h => does_skip rfl (wanted_by (b := false) (want := true) rfl rfl (h.dep 10 rfl)) rfl,
      fun s v h => does_skip rfl (wanted_by (b := false) (want := true) rfl rfl (h.dep 10 rfl)) rfl,
      fun s v h => does_skip rfl (wanted_by (b := false) (want := true) rfl rfl (h.dep 10 rfl)) rfl,
      fun s v h => does_val rfl rfl (x_pick (h.dep 10 rfl)) rfl,
      fun s v h => does_val rfl rfl (x_move) (h.dep 15 rfl),
      fun s v h => does_skip rfl (wanted_by (b := false) (want := true) rfl rfl (h.dep 16 rfl)) rfl,
      fun s v h => does_skip rfl (wanted_by (b := false) (want := true) rfl rfl (h.dep 16 rfl)) rfl,
      fun s v h => does_skip rfl (wanted_by (b := false) (want := true) rfl rfl (h.dep 16 rfl)) rfl,
      fun s v h => does_skip rfl (wanted_by (b := false) (want := true) rfl rfl (h.dep 16 rfl)) rfl,
      fun s v h => does_skip rfl (unwanted_by (want := false) rfl rfl (h.dep 20 rfl)) rfl,
      fun s v h => does_skip rfl (unwanted_by (want := false) rfl rfl (h.dep 20 rfl)) rfl,
      fun s v h => does_skip rfl (unwanted_by (want := false) rfl rfl (h.dep 20 rfl)) rfl,
      fun s v h => does_skip rfl (unwanted_by (want := false) rfl rfl (h.dep 20 rfl)) rfl,
      fun s v h => does_skip rfl (wanted_by (b := false) (want := true) rfl rfl (h.dep 16 rfl)) rfl,
      fun s v h => does_val rfl rfl (x_pick (h.dep 16 rfl)) rfl, trivial⟩
    intro g119 ts v119 hts E119
    simp only [fillL, Nat.reduceAdd, List.setIfInBounds_toArray, List.set_cons_zero, List.set_cons_succ] at hts
    subst hts
    have T120 : Below w.heap.size w v119 := T13.trans E119.below
    have e147 : g119 26 = (.bool false) := E119.facts 26 (by decide)
    refine then_normal ?_
    refine wp_cond_false e147 ?_
    refine wp_exit ?_
    refine exit_then ?_
    refine exit_then ?_
    refine exit_block ?_
    refine then_normal ?_
    refine wp_seq ?_
    have HB : w.heap.size ≤ v119.heap.size := T120.size
    refine wp_plan_seq [.val (.is (.int .i64 (i1 : Int))), .val (.is (.int .i64 (i1 : Int))), .val (.is (.int .i64 (fr : Int))), .val (.is (.bool true)), .val (.is (.int .i64 (i1 : Int))), .val (.is (.bool true))] [] [] w.heap.size (by kernel_rfl) (by kernel_rfl) trivial HB ?_ ?_
    · exact ⟨fun s v h => does_val rfl rfl (x_move) ((h.same 1 rfl).trans p12),
      fun s v h => does_val rfl rfl (x_move) ((h.same 1 rfl).trans p12),
      fun s v h => does_val rfl rfl (x_move) ((h.same 6 rfl).trans p11),
      fun s v h => does_val rfl rfl (x_gtr (h.dep 1 rfl) (h.dep 2 rfl)) (congrArg Value.bool hgt2),
      fun s v h => does_val rfl rfl (x_assign) (h.dep 0 rfl),
      fun s v h => does_val rfl rfl (x_assign) (h.dep 3 rfl), trivial⟩
    intro g148 ts v148 hts E148
    simp only [fillL, Nat.reduceAdd, List.setIfInBounds_toArray, List.set_cons_zero, List.set_cons_succ] at hts
    subst hts
    have T149 : Below w.heap.size w v148 := T120.trans E148.below
    have e154 : g148 4 = (.int .i64 (i1 : Int)) := E148.facts 4 (by decide)
    have e155 : g148 5 = (.bool true) := E148.facts 5 (by decide)
    refine then_normal ?_
    refine wp_ret ?_
    exact bodyPost_ret (results_tmp2 (t := 4) (u := 5) rfl _ _ _) rfl ⟨_, rfl, ⟨_, _, rfl, (by have := e154; rw [hlt] at this; exact this), e155⟩, T149⟩

set_option maxHeartbeats 4000000 in
set_option maxRecDepth 8000 in
theorem qnum_neg {w : World} {s : ByteArray} {zr : Int} {N : Nat} (hs : 1 ≤ s.size) (d0 : ((byteN s 0 : Int) == 45) = true) (hl : (digs zr.natAbs).length ≤ N) (hrec : ∀ (v : World) (y : Value), y = .string (s.extract 1 s.size) → Calls Try.prog 74 #[y] v (Ret (.cz zr) v))  : Calls Try.prog 74 #[.string s] w (Ret (.cz (-zr)) w) := by
  have T0 : Below w.heap.size w w := Below.refl _ _
  go_enter Try.func74, Try.ntmps74
  refine wp_seq ?_
  have HB : w.heap.size ≤ w.heap.size := T0.size
  refine wp_plan_seq [.new 2 (some (24, #[.bool false, .slice none 0 0]))] [] [] w.heap.size (by kernel_rfl) (by kernel_rfl) trivial HB ?_ ?_
  · exact ⟨fun s v h => does_new rfl rfl x_alloc_z (okz _ _ _ _) rfl (.inr rfl), trivial⟩
  intro g156 ts v156 hts E156
  simp only [fillL, List.setIfInBounds_toArray, List.set_cons_zero, List.set_cons_succ] at hts
  subst hts
  have T157 : Below w.heap.size w v156 := T0.trans E156.below
  obtain ⟨q158, p159, l160, o161, b162⟩ : ∃ q, g156 0 = .pointer (some ⟨q, 0, none⟩) ∧ w.heap.size ≤ q ∧ OkB v156 q 2 ∧ Bx v156 q 24 #[.bool false, .slice none 0 0] := E156.facts 0 (by decide)
  have h164 : w.heap.size ≤ q158 := Nat.le_trans HB l160
  refine then_normal ?_
  refine wp_seq ?_
  refine wp_seq ?_
  have HB : w.heap.size ≤ v156.heap.size := T157.size
  refine wp_plan_seq [.val (.is (.string s)), .val (.is (.int .u8 (byteN s 0 : Int))), .val (.is (.bool true))] [] [] w.heap.size (by kernel_rfl) (by kernel_rfl) trivial HB ?_ ?_
  · exact ⟨fun s v h => does_val rfl rfl (x_move) (h.same 0 rfl),
      fun s v h => does_val rfl rfl (x_index_str (h.dep 0 rfl) (k := 0) rfl (by omega)) rfl,
      fun s v h => does_val rfl rfl (x_eql_u8 (h.dep 1 rfl) rfl) (congrArg Value.bool d0), trivial⟩
  intro g165 ts v165 hts E165
  simp only [fillL, Nat.reduceAdd, List.setIfInBounds_toArray, List.set_cons_zero, List.set_cons_succ] at hts
  subst hts
  have T166 : Below w.heap.size w v165 := T157.trans E165.below
  have l167 : q158 < v156.heap.size := b162.lt
  have b168 : Bx v165 q158 24 #[.bool false, .slice none 0 0] := (E165.far q158 b162.lt (by simp)).trans b162
  have e172 : g165 2 = (.bool true) := E165.facts 2 (by decide)
  refine then_normal ?_
  refine wp_cond_true e172 ?_
  refine wp_seq ?_
  have HB : w.heap.size ≤ v165.heap.size := T166.size
  refine wp_plan_seq [.val (.is (.string s)), .val (.is (.string (s.extract 1 s.size))), .val (.cz zr), .val (.cz (-zr)), .put 2 15] [2] [q158] w.heap.size (by kernel_rfl) (by kernel_rfl) ⟨p159, b168.lt, (by simp), trivial⟩ HB ?_ ?_
  · exact ⟨fun s v h => does_val rfl rfl (x_move) (h.same 0 rfl),
      fun s v h => does_val rfl rfl (x_cut_from (h.dep 0 rfl) (k := 1) rfl (by omega)) rfl,
      fun s v h => does_call rfl rfl (x_call1 Try.call74) (hrec _ _ (h.dep 1 rfl)),
      fun s v h => does_call rfl rfl (x_call1 Try.call78) (neg_k ((h.dep 2 rfl).az (N := N) hl)),
      fun s v h => does_put_z rfl rfl ((h.same 2 rfl).trans p159) (h.dep 3 rfl).shape (h.mono.ok _ _ b168.ok2) h164, trivial⟩
  intro g173 ts v173 hts E173
  simp only [fillL, Nat.reduceAdd, List.setIfInBounds_toArray, List.set_cons_zero, List.set_cons_succ] at hts
  subst hts
  have T174 : Below w.heap.size w v173 := T166.trans E173.below
  have l175 : q158 < v165.heap.size := b168.lt
  have f180 : Cz v173 (g173 3) (-zr) := E173.facts 3 (by decide)
  obtain ⟨t181, x183, A184, m185, c186, e187, b182⟩ := put_info (E173.facts 4 (by decide)) p159 f180.shape
  have f188 : Cz v173 (.agg #[.bool x183, .slice A184 m185 c186]) (-zr) := f180.at e187.symm
  refine then_normal ?_
  refine wp_ret ?_
  exact bodyPost_ret (ret_c rfl p159 b182) rfl ⟨_, rfl, f188, T174⟩

set_option maxHeartbeats 4000000 in
set_option maxRecDepth 8000 in
theorem qnum_short {w : World} {s : ByteArray} {zr : Int} (hs : 1 ≤ s.size) (d0 : ((byteN s 0 : Int) == 45) = false) (dl : decide ((s.size : Int) ≤ 65535) = true) (hread : ∀ (v : World) (y : Value), y = .string s → Calls Try.prog 99 #[y] v (Ret (.tup3 (.cz zr) (.is (.int .i64 0)) (.is (.int .i64 0))) v))  : Calls Try.prog 74 #[.string s] w (Ret (.cz zr) w) := by
  have T0 : Below w.heap.size w w := Below.refl _ _
  go_enter Try.func74, Try.ntmps74
  refine wp_seq ?_
  have HB : w.heap.size ≤ w.heap.size := T0.size
  refine wp_plan_seq [.new 2 (some (24, #[.bool false, .slice none 0 0]))] [] [] w.heap.size (by kernel_rfl) (by kernel_rfl) trivial HB ?_ ?_
  · exact ⟨fun s v h => does_new rfl rfl x_alloc_z (okz _ _ _ _) rfl (.inr rfl), trivial⟩
  intro g189 ts v189 hts E189
  simp only [fillL, List.setIfInBounds_toArray, List.set_cons_zero, List.set_cons_succ] at hts
  subst hts
  have T190 : Below w.heap.size w v189 := T0.trans E189.below
  obtain ⟨q191, p192, l193, o194, b195⟩ : ∃ q, g189 0 = .pointer (some ⟨q, 0, none⟩) ∧ w.heap.size ≤ q ∧ OkB v189 q 2 ∧ Bx v189 q 24 #[.bool false, .slice none 0 0] := E189.facts 0 (by decide)
  have h197 : w.heap.size ≤ q191 := Nat.le_trans HB l193
  refine then_normal ?_
  refine wp_seq ?_
  refine wp_seq ?_
  have HB : w.heap.size ≤ v189.heap.size := T190.size
  refine wp_plan_seq [.val (.is (.string s)), .val (.is (.int .u8 (byteN s 0 : Int))), .val (.is (.bool false))] [] [] w.heap.size (by kernel_rfl) (by kernel_rfl) trivial HB ?_ ?_
  · exact ⟨fun s v h => does_val rfl rfl (x_move) (h.same 0 rfl),
      fun s v h => does_val rfl rfl (x_index_str (h.dep 0 rfl) (k := 0) rfl (by omega)) rfl,
      fun s v h => does_val rfl rfl (x_eql_u8 (h.dep 1 rfl) rfl) (congrArg Value.bool d0), trivial⟩
  intro g198 ts v198 hts E198
  simp only [fillL, Nat.reduceAdd, List.setIfInBounds_toArray, List.set_cons_zero, List.set_cons_succ] at hts
  subst hts
  have T199 : Below w.heap.size w v198 := T190.trans E198.below
  have l200 : q191 < v189.heap.size := b195.lt
  have b201 : Bx v198 q191 24 #[.bool false, .slice none 0 0] := (E198.far q191 b195.lt (by simp)).trans b195
  have e205 : g198 2 = (.bool false) := E198.facts 2 (by decide)
  refine then_normal ?_
  refine wp_cond_false e205 ?_
  refine wp_skip ?_
  refine then_normal ?_
  refine wp_seq ?_
  refine wp_seq ?_
  have HB : w.heap.size ≤ v198.heap.size := T199.size
  refine wp_plan_seq [.val (.is (.string s)), .val (.is (.int .i64 (s.size : Int))), .val (.is (.bool true))] [] [] w.heap.size (by kernel_rfl) (by kernel_rfl) trivial HB ?_ ?_
  · exact ⟨fun s v h => does_val rfl rfl (x_move) (h.same 0 rfl),
      fun s v h => does_val rfl rfl (x_len_str (h.dep 0 rfl)) rfl,
      fun s v h => does_val rfl rfl (x_leq (h.dep 1 rfl) rfl) (congrArg Value.bool dl), trivial⟩
  intro g206 ts v206 hts E206
  simp only [fillL, Nat.reduceAdd, List.setIfInBounds_toArray, List.set_cons_zero, List.set_cons_succ] at hts
  subst hts
  have T207 : Below w.heap.size w v206 := T199.trans E206.below
  have l208 : q191 < v198.heap.size := b201.lt
  have b209 : Bx v206 q191 24 #[.bool false, .slice none 0 0] := (E206.far q191 b201.lt (by simp)).trans b201
  have e213 : g206 2 = (.bool true) := E206.facts 2 (by decide)
  refine then_normal ?_
  refine wp_cond_true e213 ?_
  refine wp_seq ?_
  have HB : w.heap.size ≤ v206.heap.size := T207.size
  refine wp_plan_seq [.val (.is (.string s)), .val (.tup3 (.cz zr) (.is (.int .i64 0)) (.is (.int .i64 0))), .val (.tup3 (.cz zr) (.is (.int .i64 0)) (.is (.int .i64 0))), .val (.cz zr), .val (.is (.int .i64 0)), .val (.is (.int .i64 0)), .new 2 none, .put 3 22, .val (.is (.int .i64 0)), .val (.is (.int .i64 0))] [] [] w.heap.size (by kernel_rfl) (by kernel_rfl) trivial HB ?_ ?_
  · exact ⟨fun s v h => does_val rfl rfl (x_move) (h.same 0 rfl),
      fun s v h => does_call rfl rfl (x_call1 Try.call99) (hread _ _ (h.dep 0 rfl)),
      fun s v h => does_val rfl rfl (x_move) (h.dep 1 rfl),
      fun s v h => by obtain ⟨r0, r1, r2, e, f0, f1, f2⟩ := tup3_at (h.dep 2 rfl); exact does_val rfl rfl (x_ext e rfl) f0,
      fun s v h => by obtain ⟨r0, r1, r2, e, f0, f1, f2⟩ := tup3_at (h.dep 2 rfl); exact does_val rfl rfl (x_ext e rfl) f1,
      fun s v h => by obtain ⟨r0, r1, r2, e, f0, f1, f2⟩ := tup3_at (h.dep 2 rfl); exact does_val rfl rfl (x_ext e rfl) f2,
      fun s v h => does_new rfl rfl x_alloc_z (okz _ _ _ _) rfl (.inl rfl),
      fun s v h => by obtain ⟨q, e1, e2, e3⟩ := new_at (h.dep 6 rfl); exact does_put_z rfl rfl e1 (h.dep 3 rfl).shape e3 (Nat.le_trans HB e2),
      fun s v h => does_val rfl rfl (x_assign) (h.dep 4 rfl),
      fun s v h => does_val rfl rfl (x_assign) (h.dep 5 rfl), trivial⟩
  intro g214 ts v214 hts E214
  simp only [fillL, Nat.reduceAdd, List.setIfInBounds_toArray, List.set_cons_zero, List.set_cons_succ] at hts
  subst hts
  have T215 : Below w.heap.size w v214 := T207.trans E214.below
  have l216 : q191 < v206.heap.size := b209.lt
  have b217 : Bx v214 q191 24 #[.bool false, .slice none 0 0] := (E214.far q191 b209.lt (by simp)).trans b209
  have f220 : Cz v214 (g214 3) zr := E214.facts 3 (by decide)
  obtain ⟨q225, p226, l227, o228⟩ : ∃ q, g214 6 = .pointer (some ⟨q, 0, none⟩) ∧ v206.heap.size ≤ q ∧ OkB v214 q 2 := E214.facts 6 (by decide)
  have h229 : w.heap.size ≤ q225 := Nat.le_trans HB l227
  have n230 : q191 ≠ q225 := by omega
  obtain ⟨t231, x233, A234, m235, c236, e237, b232⟩ := put_info (E214.facts 7 (by decide)) p226 f220.shape
  have f238 : Cz v214 (.agg #[.bool x233, .slice A234 m235 c236]) zr := f220.at e237.symm
  refine then_normal ?_
  refine wp_seq ?_
  have HB : w.heap.size ≤ v214.heap.size := T215.size
  refine wp_plan_seq [.val (.cz zr), .put 2 25] [2] [q191] w.heap.size (by kernel_rfl) (by kernel_rfl) ⟨p192, b217.lt, (by simp), trivial⟩ HB ?_ ?_
  · exact ⟨fun s v h => does_val rfl rfl (x_load_z ((h.same 3 rfl).trans p226) ((h.far q225 b232.lt (nin1 n230.symm)).trans b232)) (f238.mono h.mono),
      fun s v h => does_put_z rfl rfl ((h.same 2 rfl).trans p192) (h.dep 0 rfl).shape (h.mono.ok _ _ b217.ok2) h197, trivial⟩
  intro g239 ts v239 hts E239
  simp only [fillL, List.setIfInBounds_toArray, List.set_cons_zero, List.set_cons_succ] at hts
  subst hts
  have T240 : Below w.heap.size w v239 := T215.trans E239.below
  have l241 : q191 < v214.heap.size := b217.lt
  have l242 : q225 < v214.heap.size := b232.lt
  have f247 : Cz v239 (g239 0) zr := E239.facts 0 (by decide)
  obtain ⟨t248, x250, A251, m252, c253, e254, b249⟩ := put_info (E239.facts 1 (by decide)) p192 f247.shape
  have f255 : Cz v239 (.agg #[.bool x250, .slice A251 m252 c253]) zr := f247.at e254.symm
  refine then_normal ?_
  refine wp_ret ?_
  exact bodyPost_ret (ret_c rfl p192 b249) rfl ⟨_, rfl, f255, T240⟩

set_option maxHeartbeats 4000000 in
set_option maxRecDepth 8000 in
theorem qnum_long {w : World} {s : ByteArray} {ct : Nat} (hs : 1 ≤ s.size) (hsz : s.size ≤ 131072) (d0 : ((byteN s 0 : Int) == 45) = false) (dl : decide ((s.size : Int) ≤ 65535) = false) (hct : (s.size : Int) - 65535 = (ct : Int)) (HD : Hid (∀ j, 0 ≤ j → j < s.size → 48 ≤ byteN s j ∧ byteN s j ≤ 57)) (hrec : ∀ (v : World) (y : Value), y = .string (s.extract 0 ct) → Calls Try.prog 74 #[y] v (Ret (.cz (dvFrom s 0 ct : Int)) v))  : Calls Try.prog 74 #[.string s] w (Ret (.cz (dvFrom s 0 s.size : Int)) w) := by
  have T0 : Below w.heap.size w w := Below.refl _ _
  go_enter Try.func74, Try.ntmps74
  refine wp_seq ?_
  have HB : w.heap.size ≤ w.heap.size := T0.size
  refine wp_plan_seq [.new 2 (some (24, #[.bool false, .slice none 0 0]))] [] [] w.heap.size (by kernel_rfl) (by kernel_rfl) trivial HB ?_ ?_
  · exact ⟨fun s v h => does_new rfl rfl x_alloc_z (okz _ _ _ _) rfl (.inr rfl), trivial⟩
  intro g256 ts v256 hts E256
  simp only [fillL, List.setIfInBounds_toArray, List.set_cons_zero, List.set_cons_succ] at hts
  subst hts
  have T257 : Below w.heap.size w v256 := T0.trans E256.below
  obtain ⟨q258, p259, l260, o261, b262⟩ : ∃ q, g256 0 = .pointer (some ⟨q, 0, none⟩) ∧ w.heap.size ≤ q ∧ OkB v256 q 2 ∧ Bx v256 q 24 #[.bool false, .slice none 0 0] := E256.facts 0 (by decide)
  have f263 : Cz v256 (.agg #[.bool false, .slice none 0 0]) 0 := cz_zero _
  have h264 : w.heap.size ≤ q258 := Nat.le_trans HB l260
  refine then_normal ?_
  refine wp_seq ?_
  refine wp_seq ?_
  have HB : w.heap.size ≤ v256.heap.size := T257.size
  refine wp_plan_seq [.val (.is (.string s)), .val (.is (.int .u8 (byteN s 0 : Int))), .val (.is (.bool false))] [] [] w.heap.size (by kernel_rfl) (by kernel_rfl) trivial HB ?_ ?_
  · exact ⟨fun s v h => does_val rfl rfl (x_move) (h.same 0 rfl),
      fun s v h => does_val rfl rfl (x_index_str (h.dep 0 rfl) (k := 0) rfl (by omega)) rfl,
      fun s v h => does_val rfl rfl (x_eql_u8 (h.dep 1 rfl) rfl) (congrArg Value.bool d0), trivial⟩
  intro g265 ts v265 hts E265
  simp only [fillL, Nat.reduceAdd, List.setIfInBounds_toArray, List.set_cons_zero, List.set_cons_succ] at hts
  subst hts
  have T266 : Below w.heap.size w v265 := T257.trans E265.below
  have l267 : q258 < v256.heap.size := b262.lt
  have b268 : Bx v265 q258 24 #[.bool false, .slice none 0 0] := (E265.far q258 b262.lt (by simp)).trans b262
  have f269 := (f263.mono E265.mono)
  have e272 : g265 2 = (.bool false) := E265.facts 2 (by decide)
  refine then_normal ?_
  refine wp_cond_false e272 ?_
  refine wp_skip ?_
  refine then_normal ?_
  refine wp_seq ?_
  refine wp_seq ?_
  have HB : w.heap.size ≤ v265.heap.size := T266.size
  refine wp_plan_seq [.val (.is (.string s)), .val (.is (.int .i64 (s.size : Int))), .val (.is (.bool false))] [] [] w.heap.size (by kernel_rfl) (by kernel_rfl) trivial HB ?_ ?_
  · exact ⟨fun s v h => does_val rfl rfl (x_move) (h.same 0 rfl),
      fun s v h => does_val rfl rfl (x_len_str (h.dep 0 rfl)) rfl,
      fun s v h => does_val rfl rfl (x_leq (h.dep 1 rfl) rfl) (congrArg Value.bool dl), trivial⟩
  intro g273 ts v273 hts E273
  simp only [fillL, Nat.reduceAdd, List.setIfInBounds_toArray, List.set_cons_zero, List.set_cons_succ] at hts
  subst hts
  have T274 : Below w.heap.size w v273 := T266.trans E273.below
  have l275 : q258 < v265.heap.size := b268.lt
  have b276 : Bx v273 q258 24 #[.bool false, .slice none 0 0] := (E273.far q258 b268.lt (by simp)).trans b268
  have f277 := (f269.mono E273.mono)
  have e280 : g273 2 = (.bool false) := E273.facts 2 (by decide)
  refine then_normal ?_
  refine wp_cond_false e280 ?_
  refine wp_skip ?_
  refine then_normal ?_
  refine wp_seq ?_
  have HB : w.heap.size ≤ v273.heap.size := T274.size
  refine wp_plan_seq [.val (.is (.string s)), .val (.is (.int .i64 (s.size : Int))), .val (.is (.int .i64 (ct : Int))), .val (.is (.int .i64 (ct : Int)))] [] [] w.heap.size (by kernel_rfl) (by kernel_rfl) trivial HB ?_ ?_
  · exact ⟨fun s v h => does_val rfl rfl (x_move) (h.same 0 rfl),
      fun s v h => does_val rfl rfl (x_len_str (h.dep 0 rfl)) rfl,
      fun s v h => does_val rfl rfl (x_sub (h.dep 1 rfl) rfl (by rw [IntKind.wrap_i64]; omega)) (congrArg (Value.int .i64) hct),
      fun s v h => does_val rfl rfl (x_assign) (h.dep 2 rfl), trivial⟩
  intro g281 ts v281 hts E281
  simp only [fillL, Nat.reduceAdd, List.setIfInBounds_toArray, List.set_cons_zero, List.set_cons_succ] at hts
  subst hts
  have T282 : Below w.heap.size w v281 := T274.trans E281.below
  have l283 : q258 < v273.heap.size := b276.lt
  have b284 : Bx v281 q258 24 #[.bool false, .slice none 0 0] := (E281.far q258 b276.lt (by simp)).trans b276
  have f285 := (f277.mono E281.mono)
  have e289 : g281 3 = (.int .i64 (ct : Int)) := E281.facts 3 (by decide)
  refine then_normal ?_
  refine wp_seq ?_
  have HB : w.heap.size ≤ v281.heap.size := T282.size
  refine wp_plan_seq [.val (.is (.string s)), .val (.is (.int .i64 (ct : Int))), .val (.is (.string (s.extract 0 ct))), .val (.cz (dvFrom s 0 ct : Int)), .new 2 none, .put 7 32] [] [] w.heap.size (by kernel_rfl) (by kernel_rfl) trivial HB ?_ ?_
  · exact ⟨fun s v h => does_val rfl rfl (x_move) (h.same 0 rfl),
      fun s v h => does_val rfl rfl (x_move) ((h.same 6 rfl).trans e289),
      fun s v h => does_val rfl rfl (x_cut_to (h.dep 0 rfl) (k := ct) (h.dep 1 rfl) (by omega)) rfl,
      fun s v h => does_call rfl rfl (x_call1 Try.call74) (hrec _ _ (h.dep 2 rfl)),
      fun s v h => does_new rfl rfl x_alloc_z (okz _ _ _ _) rfl (.inl rfl),
      fun s v h => by obtain ⟨q, e1, e2, e3⟩ := new_at (h.dep 4 rfl); exact does_put_z rfl rfl e1 (h.dep 3 rfl).shape e3 (Nat.le_trans HB e2), trivial⟩
  intro g290 ts v290 hts E290
  simp only [fillL, Nat.reduceAdd, List.setIfInBounds_toArray, List.set_cons_zero, List.set_cons_succ] at hts
  subst hts
  have T291 : Below w.heap.size w v290 := T282.trans E290.below
  have l292 : q258 < v281.heap.size := b284.lt
  have b293 : Bx v290 q258 24 #[.bool false, .slice none 0 0] := (E290.far q258 b284.lt (by simp)).trans b284
  have f294 := (f285.mono E290.mono)
  have f298 : Cz v290 (g290 3) (dvFrom s 0 ct : Int) := E290.facts 3 (by decide)
  obtain ⟨q299, p300, l301, o302⟩ : ∃ q, g290 4 = .pointer (some ⟨q, 0, none⟩) ∧ v281.heap.size ≤ q ∧ OkB v290 q 2 := E290.facts 4 (by decide)
  have h303 : w.heap.size ≤ q299 := Nat.le_trans HB l301
  have n304 : q258 ≠ q299 := by omega
  obtain ⟨t305, x307, A308, m309, c310, e311, b306⟩ := put_info (E290.facts 5 (by decide)) p300 f298.shape
  have f312 : Cz v290 (.agg #[.bool x307, .slice A308 m309 c310]) (dvFrom s 0 ct : Int) := f298.at e311.symm
  refine then_normal ?_
  refine wp_seq ?_
  refine wp_seq ?_
  have HB : w.heap.size ≤ v290.heap.size := T291.size
  refine wp_plan_seq [.val (.is (.int .i64 (ct : Int))), .val (.is (.int .i64 (ct : Int)))] [] [] w.heap.size (by kernel_rfl) (by kernel_rfl) trivial HB ?_ ?_
  · exact ⟨fun s v h => does_val rfl rfl (x_move) ((h.same 6 rfl).trans e289),
      fun s v h => does_val rfl rfl (x_assign) (h.dep 0 rfl), trivial⟩
  intro g313 ts v313 hts E313
  simp only [fillL, Nat.reduceAdd, List.setIfInBounds_toArray, List.set_cons_zero, List.set_cons_succ] at hts
  subst hts
  have T314 : Below w.heap.size w v313 := T291.trans E313.below
  have l315 : q258 < v290.heap.size := b293.lt
  have l316 : q299 < v290.heap.size := b306.lt
  have b317 : Bx v313 q258 24 #[.bool false, .slice none 0 0] := (E313.far q258 b293.lt (by simp)).trans b293
  have b318 : Bx v313 q299 t305 #[.bool x307, .slice A308 m309 c310] := (E313.far q299 b306.lt (by simp)).trans b306
  have f319 := (f294.mono E313.mono)
  have f321 := (f312.mono E313.mono)
  have e323 : g313 1 = (.int .i64 (ct : Int)) := E313.facts 1 (by decide)
  refine then_normal ?_
  refine wp_block ?_
  refine wp_loop_v 51 (fun k y wL => ∃ (i1 : Nat) (ty7 : TypeId) (b7_ : Bool) (A7_ : Option Addr) (m7_ c7_ : Nat), y 2 = .pointer (some ⟨q258, 0, none⟩) ∧ y 7 = .pointer (some ⟨q299, 0, none⟩) ∧ y 0 = (.string s) ∧ y 8 = (.int .i64 (i1 : Int)) ∧ Below w.heap.size w wL ∧ Bx wL q258 24 #[.bool false, .slice none 0 0] ∧ Cz wL (.agg #[.bool false, .slice none 0 0]) 0 ∧ Bx wL q299 ty7 #[.bool b7_, .slice A7_ m7_ c7_] ∧ Cz wL (.agg #[.bool b7_, .slice A7_ m7_ c7_]) (dvFrom s 0 i1 : Int) ∧ (ct ≤ i1 ∧ i1 ≤ s.size) ∧ k = s.size - i1) rfl rfl ⟨_, ct, t305, x307, A308, m309, c310, p259, p300, rfl, e323, T314, b317, f319, b318, f321, ⟨Nat.le_refl _, by omega⟩, rfl⟩ ?_
  rintro k y324 v324 ⟨i1, ty7, b7_, A7_, m7_, c7_, p325, p326, p327, p328, T329, b330, f331, b332, f333, ⟨j1, j2⟩, hk⟩
  have hlit : litv 51 y324 = #[y324 0, y324 1, y324 2, y324 3, y324 4, y324 5, y324 6, y324 7, y324 8, y324 9, y324 10, y324 11, y324 12, y324 13, y324 14, y324 15, y324 16, y324 17, y324 18, y324 19, y324 20, y324 21, y324 22, y324 23, y324 24, y324 25, y324 26, y324 27, y324 28, y324 29, y324 30, y324 31, y324 32, y324 33, y324 34, y324 35, y324 36, y324 37, y324 38, y324 39, y324 40, y324 41, y324 42, y324 43, y324 44, y324 45, y324 46, y324 47, y324 48, y324 49, y324 50] := rfl
  rw [hlit]
  clear hlit
  have ld : (digs (dvFrom s 0 i1 : Int).natAbs).length ≤ 200000 := by rw [Int.natAbs_natCast]; exact Nat.le_trans (dig_len HD (i := 0) (j := i1) (by omega) (by omega)) (by omega)
  by_cases hgo : i1 < s.size
  · skip
    have e0 : decide ((i1 : Int) < (s.size : Int)) = true := decide_eq_true (by omega)
    have hd := HD.out i1 (by omega) hgo
    have lx : (digs ((byteN s i1 : Int) - 48).natAbs).length ≤ 1 := digs_len_le (by omega)
    have hnx : ((dvFrom s 0 i1 : Int) * 10) + ((byteN s i1 : Int) - 48) = (dvFrom s 0 (i1 + 1) : Int) := by rw [dvFrom, Nat.zero_add]; omega
    refine wp_seq ?_
    refine wp_seq ?_
    have HB : w.heap.size ≤ v324.heap.size := T329.size
    refine wp_plan_seq [.val (.is (.int .i64 (i1 : Int))), .val (.is (.string s)), .val (.is (.int .i64 (s.size : Int))), .val (.is (.bool true))] [] [] w.heap.size (by kernel_rfl) (by kernel_rfl) trivial HB ?_ ?_
    · exact ⟨fun s v h => does_val rfl rfl (x_move) ((h.same 8 rfl).trans p328),
      fun s v h => does_val rfl rfl (x_move) ((h.same 0 rfl).trans p327),
      fun s v h => does_val rfl rfl (x_len_str (h.dep 1 rfl)) rfl,
      fun s v h => does_val rfl rfl (x_lss (h.dep 0 rfl) (h.dep 2 rfl)) (congrArg Value.bool e0), trivial⟩
    intro g334 ts v334 hts E334
    simp only [fillL, Nat.reduceAdd, List.setIfInBounds_toArray, List.set_cons_zero, List.set_cons_succ] at hts
    subst hts
    have T335 : Below w.heap.size w v334 := T329.trans E334.below
    have l336 : q258 < v324.heap.size := b330.lt
    have l337 : q299 < v324.heap.size := b332.lt
    have b338 : Bx v334 q258 24 #[.bool false, .slice none 0 0] := (E334.far q258 b330.lt (by simp)).trans b330
    have b339 : Bx v334 q299 ty7 #[.bool b7_, .slice A7_ m7_ c7_] := (E334.far q299 b332.lt (by simp)).trans b332
    have f340 := (f331.mono E334.mono)
    have f341 := (f333.mono E334.mono)
    have e345 : g334 3 = (.bool true) := E334.facts 3 (by decide)
    refine then_normal ?_
    refine wp_cond_true e345 ?_
    refine wp_skip ?_
    refine then_normal ?_
    refine wp_seq ?_
    refine wp_block ?_
    have HB : w.heap.size ≤ v334.heap.size := T335.size
    refine wp_plan_any [.val (.cz (dvFrom s 0 i1 : Int)), .val (.cz 10), .val (.cz ((dvFrom s 0 i1 : Int) * 10)), .val (.is (.string s)), .val (.is (.int .i64 (i1 : Int))), .val (.is (.int .u8 (byteN s i1 : Int))), .val (.is (.int .u8 ((byteN s i1 : Int) - 48))), .val (.is (.int .i64 ((byteN s i1 : Int) - 48))), .val (.cz ((byteN s i1 : Int) - 48)), .val (.cz (((dvFrom s 0 i1 : Int) * 10) + ((byteN s i1 : Int) - 48))), .put 7 49] [7] [q299] w.heap.size (by kernel_rfl) (by kernel_rfl) (by kernel_rfl) ⟨p326, b339.lt, (by simp), trivial⟩ HB ?_ ?_
    · exact ⟨fun s v h => does_val rfl rfl (x_load_z ((h.same 7 rfl).trans p326) ((h.held 10 7 49 _ rfl rfl rfl p326).trans b339)) (f341.mono ((Mono.drew _).trans h.mono)),
      fun s v h => does_call rfl rfl (x_call1 Try.call52) (of_k rfl (by decide) (by decide)),
      fun s v h => does_call rfl rfl (x_call2 Try.call55) (mul_k ((h.dep 0 rfl).az (N := 200000) ld) ((h.dep 1 rfl).az (N := 1) (show (digs (Int.natAbs 10)).length ≤ 1 from digs_len_le (by decide))) (by omega) (by omega)),
      fun s v h => does_val rfl rfl (x_move) ((h.same 0 rfl).trans p327),
      fun s v h => does_val rfl rfl (x_move) ((h.same 8 rfl).trans p328),
      fun s v h => does_val rfl rfl (x_index_str (h.dep 3 rfl) (k := i1) (h.dep 4 rfl) (by omega)) rfl,
      fun s v h => does_val rfl rfl (x_sub_u8 (h.dep 5 rfl) rfl (IntWalk.u8_in _ (by omega))) rfl,
      fun s v h => does_val rfl rfl (x_conv_8_i64 (h.dep 6 rfl) (IntWalk.i64_in _ (by omega))) rfl,
      fun s v h => does_call rfl rfl (x_call1 Try.call52) (of_k (h.dep 7 rfl) (by omega) (by omega)),
      fun s v h => does_call rfl rfl (x_call2 Try.call58) (add_k ((h.dep 2 rfl).az (N := 200001) (len_mul ld (show (digs (Int.natAbs 10)).length ≤ 1 from digs_len_le (by decide)))) ((h.dep 8 rfl).az (N := 1) lx) (by omega) (by omega)),
      fun s v h => does_put_z rfl rfl ((h.same 7 rfl).trans p326) (h.dep 9 rfl).shape (((Mono.drew _).trans h.mono).ok _ _ b339.ok2) h303, trivial⟩
    intro g346 ts v346 hts E346
    simp only [fillL, Nat.reduceAdd, List.setIfInBounds_toArray, List.set_cons_zero, List.set_cons_succ] at hts
    subst hts
    have T347 : Below w.heap.size w v346 := (below_toDrew T335).trans E346.below
    have l348 : q258 < v334.heap.size := b338.lt
    have l349 : q299 < v334.heap.size := b339.lt
    have b350 : Bx v346 q258 24 #[.bool false, .slice none 0 0] := (E346.far q258 b338.lt (nin1 n304)).trans b338
    have f351 := (f340.mono ((Mono.drew _).trans E346.mono))
    have f362 : Cz v346 (g346 9) (((dvFrom s 0 i1 : Int) * 10) + ((byteN s i1 : Int) - 48)) := E346.facts 9 (by decide)
    obtain ⟨t363, x365, A366, m367, c368, e369, b364⟩ := put_info (E346.facts 10 (by decide)) p326 f362.shape
    have f370 : Cz v346 (.agg #[.bool x365, .slice A366 m367 c368]) (((dvFrom s 0 i1 : Int) * 10) + ((byteN s i1 : Int) - 48)) := f362.at e369.symm
    refine block_normal ?_
    refine then_normal ?_
    have HB : w.heap.size ≤ v346.heap.size := T347.size
    refine wp_plan_seq [.val (.is (.int .i64 (i1 : Int))), .val (.is (.int .i64 ((i1 + 1 : Nat) : Int))), .val (.is (.int .i64 ((i1 + 1 : Nat) : Int)))] [] [] w.heap.size (by kernel_rfl) (by kernel_rfl) trivial HB ?_ ?_
    · exact ⟨fun s v h => does_val rfl rfl (x_move) ((h.soon 2 8 rfl rfl).trans p328),
      fun s v h => does_val rfl rfl (x_add (h.dep 0 rfl) rfl (by rw [IntKind.wrap_i64]; omega)) (congrArg (Value.int .i64) (by omega)),
      fun s v h => does_val rfl rfl (x_assign) (h.dep 1 rfl), trivial⟩
    intro g371 ts v371 hts E371
    simp only [fillL, Nat.reduceAdd, List.setIfInBounds_toArray, List.set_cons_zero, List.set_cons_succ] at hts
    subst hts
    have T372 : Below w.heap.size w v371 := T347.trans E371.below
    have l373 : q258 < v346.heap.size := b350.lt
    have l374 : q299 < v346.heap.size := b364.lt
    have b375 : Bx v371 q258 24 #[.bool false, .slice none 0 0] := (E371.far q258 b350.lt (by simp)).trans b350
    have b376 : Bx v371 q299 t363 #[.bool x365, .slice A366 m367 c368] := (E371.far q299 b364.lt (by simp)).trans b364
    have f377 := (f351.mono E371.mono)
    have f384 := (f370.mono E371.mono)
    have e387 : g371 2 = (.int .i64 ((i1 + 1 : Nat) : Int)) := E371.facts 2 (by decide)
    refine then_normal ?_
    exact ⟨rfl, rfl, _, (by omega), (i1 + 1), t363, x365, A366, m367, c368, p325, p326, p327, e387, T372, b375, f377, b376, (by have := f384; rw [hnx] at this; exact this), ⟨by omega, by omega⟩, rfl⟩
  · skip
    have e0 : decide ((i1 : Int) < (s.size : Int)) = false := decide_eq_false (by omega)
    have e2 : i1 = s.size := by omega
    refine wp_seq ?_
    refine wp_seq ?_
    have HB : w.heap.size ≤ v324.heap.size := T329.size
    refine wp_plan_seq [.val (.is (.int .i64 (i1 : Int))), .val (.is (.string s)), .val (.is (.int .i64 (s.size : Int))), .val (.is (.bool false))] [] [] w.heap.size (by kernel_rfl) (by kernel_rfl) trivial HB ?_ ?_
    · exact ⟨fun s v h => does_val rfl rfl (x_move) ((h.same 8 rfl).trans p328),
      fun s v h => does_val rfl rfl (x_move) ((h.same 0 rfl).trans p327),
      fun s v h => does_val rfl rfl (x_len_str (h.dep 1 rfl)) rfl,
      fun s v h => does_val rfl rfl (x_lss (h.dep 0 rfl) (h.dep 2 rfl)) (congrArg Value.bool e0), trivial⟩
    intro g388 ts v388 hts E388
    simp only [fillL, Nat.reduceAdd, List.setIfInBounds_toArray, List.set_cons_zero, List.set_cons_succ] at hts
    subst hts
    have T389 : Below w.heap.size w v388 := T329.trans E388.below
    have l390 : q258 < v324.heap.size := b330.lt
    have l391 : q299 < v324.heap.size := b332.lt
    have b392 : Bx v388 q258 24 #[.bool false, .slice none 0 0] := (E388.far q258 b330.lt (by simp)).trans b330
    have b393 : Bx v388 q299 ty7 #[.bool b7_, .slice A7_ m7_ c7_] := (E388.far q299 b332.lt (by simp)).trans b332
    have f395 := (f333.mono E388.mono)
    have e399 : g388 3 = (.bool false) := E388.facts 3 (by decide)
    refine then_normal ?_
    refine wp_cond_false e399 ?_
    refine wp_exit ?_
    refine exit_then ?_
    refine exit_then ?_
    refine exit_block ?_
    refine then_normal ?_
    refine wp_seq ?_
    have HB : w.heap.size ≤ v388.heap.size := T389.size
    refine wp_plan_seq [.val (.cz (dvFrom s 0 i1 : Int)), .put 2 50] [2] [q258] w.heap.size (by kernel_rfl) (by kernel_rfl) ⟨p325, b392.lt, (by simp), trivial⟩ HB ?_ ?_
    · exact ⟨fun s v h => does_val rfl rfl (x_load_z ((h.same 7 rfl).trans p326) ((h.far q299 b393.lt (nin1 n304.symm)).trans b393)) (f395.mono h.mono),
      fun s v h => does_put_z rfl rfl ((h.same 2 rfl).trans p325) (h.dep 0 rfl).shape (h.mono.ok _ _ b392.ok2) h264, trivial⟩
    intro g400 ts v400 hts E400
    simp only [fillL, List.setIfInBounds_toArray, List.set_cons_zero, List.set_cons_succ] at hts
    subst hts
    have T401 : Below w.heap.size w v400 := T389.trans E400.below
    have l402 : q258 < v388.heap.size := b392.lt
    have l403 : q299 < v388.heap.size := b393.lt
    have f407 : Cz v400 (g400 0) (dvFrom s 0 i1 : Int) := E400.facts 0 (by decide)
    obtain ⟨t408, x410, A411, m412, c413, e414, b409⟩ := put_info (E400.facts 1 (by decide)) p325 f407.shape
    have f415 : Cz v400 (.agg #[.bool x410, .slice A411 m412 c413]) (dvFrom s 0 i1 : Int) := f407.at e414.symm
    refine then_normal ?_
    refine wp_ret ?_
    exact bodyPost_ret (ret_c rfl p325 b409) rfl ⟨_, rfl, (by have := f415; rw [e2] at this; exact this), T401⟩

theorem digits_k {w : World} {x y : Value} {s : ByteArray} {fr m : Nat} (e : x = .string s) (e2 : y = .int .i64 (fr : Int)) (hgt : fr < m) (hms : m ≤ s.size) (hsz : s.size ≤ 1000000) (hm : m = s.size ∨ (m < s.size ∧ byteN s m < 48)) (HG : Hid (∀ j, fr ≤ j → j < m → GoodR s fr j)) :
    Calls Try.prog 73 #[x, y] w (Ret (.tup2 (.is (.int .i64 (m : Int))) (.is (.bool true))) w) := by
  subst e e2
  exact qdigits_x hgt (by omega) hms hsz hm HG
/-- A text of digits alone. -/
structure DigT (s : ByteArray) : Prop where
  pos : 0 < s.size
  dig : ∀ j, j < s.size → 48 ≤ byteN s j ∧ byteN s j ≤ 57
  head : s.size = 1 ∨ byteN s 0 ≠ 48
theorem DigT.good {s : ByteArray} (h : DigT s) : ∀ j, j < s.size → ¬ BadF s 0 j := fun j hj hb => by
  have := h.dig j hj
  have := h.head
  unfold BadF at hb
  omega
theorem dvFrom_cut {s : ByteArray} {b : Nat} (hb : b ≤ s.size) : ∀ k, k ≤ b → dvFrom (s.extract 0 b) 0 k = dvFrom s 0 k := by
  intro k
  induction k with
  | zero => intro _; rfl
  | succ k ih =>
    intro hk
    rw [dvFrom, dvFrom, ih (by omega), byteN_cut hb (by omega), Nat.zero_add]
theorem DigT.cut {s : ByteArray} (h : DigT s) {b : Nat} (h0 : 0 < b) (hb : b ≤ s.size) : DigT (s.extract 0 b) := by
  refine ⟨by rw [size_cut hb]; omega, fun j hj => ?_, ?_⟩
  · rw [size_cut hb] at hj
    rw [byteN_cut hb (by omega), Nat.zero_add]
    exact h.dig j (by omega)
  · rw [size_cut hb, byteN_cut hb (by omega)]
    have := h.head
    rw [Nat.zero_add]
    omega
theorem num_digits : ∀ (n : Nat) (s : ByteArray), s.size ≤ n → s.size ≤ 131072 → DigT s → ∀ (v : World) (y : Value), y = .string s → Calls Try.prog 74 #[y] v (Ret (.cz (dvFrom s 0 s.size : Int)) v) := by
  intro n
  induction n with
  | zero => intro s h1 _ h; have := h.pos; omega
  | succ n ih =>
    intro s h1 h2 h v y e
    subst e
    have hp := h.pos
    have d0 : ((byteN s 0 : Int) == 45) = false := beq_eq_false_iff_ne.2 (by have := h.dig 0 hp; omega)
    by_cases hl : s.size ≤ 65535
    · refine qnum_short hp d0 (decide_eq_true (by omega)) fun v y e => ?_
      obtain ⟨z, a, e0, c, hd⟩ := zread_two s
      rcases hd with ⟨rfl, rfl, hz, _⟩ | ⟨_, hz⟩
      · have hg := good_pos hp h.good
        have : z = ((dvFrom s 0 s.size : Nat) : Int) := ztxt_inj (hz.symm.trans hg)
        subst this
        exact c v y e
      · exact absurd (good_pos hp h.good) (hz (by omega) _)
    · obtain ⟨ct, hct⟩ : ∃ ct : Nat, ct = s.size - 65535 := ⟨_, rfl⟩
      refine qnum_long (ct := ct) hp h2 d0 (decide_eq_false (by omega)) (by omega) (Lib.hid fun j _ hj => h.dig j hj) fun v y e => ?_
      have := ih (s.extract 0 ct) (by rw [size_cut (by omega)]; omega) (by rw [size_cut (by omega)]; omega) (h.cut (by omega) (by omega)) v y e
      rw [size_cut (by omega), dvFrom_cut (by omega) _ (by omega)] at this
      exact this
theorem digT_of {z : Int} (h : 0 ≤ z) : DigT (ztxt z) := by
  obtain ⟨a, b, c⟩ := ztxt_pos h
  refine ⟨a, fun j hj => ?_, ?_⟩
  · have := c j hj
    unfold BadF at this
    omega
  · by_cases h1 : (ztxt z).size = 1
    · exact .inl h1
    · have := c 1 (by omega)
      unfold BadF at this
      omega
theorem num_pos {z : Int} (h : 0 ≤ z) (hs : (ztxt z).size ≤ 131072) (v : World) (y : Value) (e : y = .string (ztxt z)) : Calls Try.prog 74 #[y] v (Ret (.cz z) v) := by
  have hd := digT_of h
  have := num_digits _ _ (Nat.le_refl _) hs hd v y e
  have hz : z = ((dvFrom (ztxt z) 0 (ztxt z).size : Nat) : Int) := ztxt_inj (good_pos hd.pos hd.good)
  rw [← hz] at this
  exact this
theorem neg_cut {z : Int} (h : z < 0) : (ztxt z).extract 1 (ztxt z).size = ztxt (-z) := by
  have e1 : ztxt z = ⟨#[45]⟩ ++ ztxt (-z) := by
    unfold ztxt
    rw [if_pos h, if_neg (by omega), Int.natAbs_neg]
  have hsz : (ztxt z).size = (ztxt (-z)).size + 1 := (congrArg ByteArray.size e1).trans (size_minus _)
  refine byte_ext (by rw [size_cut (Nat.le_refl _)]; omega) fun i hi => ?_
  rw [byteN_cut (Nat.le_refl _) (by omega)]
  exact (congrArg (byteN · (1 + i)) e1).trans (by rw [Nat.add_comm]; exact byteN_minus _ _)
theorem num_z {z : Int} (hs : (ztxt z).size ≤ 131072) (v : World) (y : Value) (e : y = .string (ztxt z)) : Calls Try.prog 74 #[y] v (Ret (.cz z) v) := by
  by_cases h : 0 ≤ z
  · exact num_pos h hs v y e
  · subst e
    obtain ⟨a, b, c, d⟩ := ztxt_neg (z := z) (by omega)
    have := qnum_neg (w := v) (s := ztxt z) (zr := -z) (N := (digs (-z).natAbs).length) (by omega) (beq_iff_eq.2 (by omega)) (Nat.le_refl _) fun v y e => by
      rw [neg_cut (by omega)] at e
      refine num_pos (by omega) ?_ v y e
      have hn := neg_cut (z := z) (by omega)
      rw [← hn, size_cut (Nat.le_refl _)]
      omega
    rw [Int.neg_neg] at this
    exact this

set_option maxHeartbeats 4000000 in
set_option maxRecDepth 8000 in
theorem qread_00 {w : World} {tx : ByteArray} {LA : Nat} {n dd : Int} {N : Nat} (hL : decide ((131072 : Int) < (tx.size : Int)) = false) (hpf : Lib.hasPrefix tx.data.toList [45] = false) (hg1 : 0 < LA) (hg2 : LA ≤ tx.size) (hg3 : LA = tx.size ∨ (LA < tx.size ∧ byteN tx LA < 48)) (hg4 : Hid (∀ j, 0 ≤ j → j < LA → GoodR tx 0 j)) (hn : ∀ (v : World) (y : Value), y = .string (tx.extract 0 LA) → Calls Try.prog 74 #[y] v (Ret (.cz n) v)) (hd0 : dd ≠ 0) (ln : (digs n.natAbs).length ≤ N) (ldd : (digs dd.natAbs).length ≤ N) (hN : N ≤ 1000000) (hlt : LA = tx.size) (hd1 : dd = 1)  : Calls Try.prog 40 #[.string tx] w (Ret (.tup3 (.pair (.cz (rn n dd)) (.cz (rd n dd))) (.is (.int .i64 0)) (.is (.int .i64 0))) w) := by
  have _u := ldd
  have _u2 := hd0
  have hsz : tx.size ≤ 131072 := by have := of_decide_eq_false hL; omega
  have hlt2 : decide ((LA : Int) < (tx.size : Int)) = false := decide_eq_false (by omega)
  have T0 : Below w.heap.size w w := Below.refl _ _
  go_enter Try.func40, Try.ntmps40
  refine wp_seq ?_
  have HB : w.heap.size ≤ w.heap.size := T0.size
  refine wp_plan_seq [.new 4 (some (29, #[.bool false, .slice none 0 0, .bool false, .slice none 0 0])), .val (.is (.int .i64 0)), .val (.is (.int .i64 0))] [] [] w.heap.size (by kernel_rfl) (by kernel_rfl) trivial HB ?_ ?_
  · exact ⟨fun s v h => does_new rfl rfl x_alloc_r (okr _ _ _ _ _ _ _ _) rfl (.inr rfl),
      fun s v h => does_val rfl rfl (x_assign) rfl,
      fun s v h => does_val rfl rfl (x_assign) rfl, trivial⟩
  intro g416 ts v416 hts E416
  simp only [fillL, Nat.reduceAdd, List.setIfInBounds_toArray, List.set_cons_zero, List.set_cons_succ] at hts
  subst hts
  have T417 : Below w.heap.size w v416 := T0.trans E416.below
  obtain ⟨q420, p421, l422, o423, b424⟩ : ∃ q, g416 0 = .pointer (some ⟨q, 0, none⟩) ∧ w.heap.size ≤ q ∧ OkB v416 q 4 ∧ Bx v416 q 29 #[.bool false, .slice none 0 0, .bool false, .slice none 0 0] := E416.facts 0 (by decide)
  have h426 : w.heap.size ≤ q420 := Nat.le_trans HB l422
  refine then_normal ?_
  refine wp_seq ?_
  refine wp_seq ?_
  have HB : w.heap.size ≤ v416.heap.size := T417.size
  refine wp_plan_seq [.val (.is (.string tx)), .val (.is (.int .i64 (tx.size : Int))), .val (.is (.bool false))] [] [] w.heap.size (by kernel_rfl) (by kernel_rfl) trivial HB ?_ ?_
  · exact ⟨fun s v h => does_val rfl rfl (x_move) (h.same 0 rfl),
      fun s v h => does_val rfl rfl (x_len_str (h.dep 0 rfl)) rfl,
      fun s v h => does_val rfl rfl (x_gtr (h.dep 1 rfl) rfl) (congrArg Value.bool hL), trivial⟩
  intro g427 ts v427 hts E427
  simp only [fillL, Nat.reduceAdd, List.setIfInBounds_toArray, List.set_cons_zero, List.set_cons_succ] at hts
  subst hts
  have T428 : Below w.heap.size w v427 := T417.trans E427.below
  have l429 : q420 < v416.heap.size := b424.lt
  have b430 : Bx v427 q420 29 #[.bool false, .slice none 0 0, .bool false, .slice none 0 0] := (E427.far q420 b424.lt (by simp)).trans b424
  have e434 : g427 2 = (.bool false) := E427.facts 2 (by decide)
  refine then_normal ?_
  refine wp_cond_false e434 ?_
  refine wp_skip ?_
  refine then_normal ?_
  refine wp_seq ?_
  have HB : w.heap.size ≤ v427.heap.size := T428.size
  refine wp_plan_seq [.val (.is (.int .i64 0))] [] [] w.heap.size (by kernel_rfl) (by kernel_rfl) trivial HB ?_ ?_
  · exact ⟨fun s v h => does_val rfl rfl (x_assign) rfl, trivial⟩
  intro g435 ts v435 hts E435
  simp only [fillL, List.setIfInBounds_toArray, List.set_cons_zero, List.set_cons_succ] at hts
  subst hts
  have T436 : Below w.heap.size w v435 := T428.trans E435.below
  have l437 : q420 < v427.heap.size := b430.lt
  have b438 : Bx v435 q420 29 #[.bool false, .slice none 0 0, .bool false, .slice none 0 0] := (E435.far q420 b430.lt (by simp)).trans b430
  have e440 : g435 0 = (.int .i64 0) := E435.facts 0 (by decide)
  refine then_normal ?_
  refine wp_seq ?_
  refine wp_seq ?_
  have HB : w.heap.size ≤ v435.heap.size := T436.size
  refine wp_plan_seq [.val (.is (.string tx)), .val (.is (.bool false))] [] [] w.heap.size (by kernel_rfl) (by kernel_rfl) trivial HB ?_ ?_
  · exact ⟨fun s v h => does_val rfl rfl (x_move) (h.same 0 rfl),
      fun s v h => does_call rfl rfl (x_call2 Try.call72) (prefix_k (h.dep 0 rfl) rfl hpf), trivial⟩
  intro g441 ts v441 hts E441
  simp only [fillL, Nat.reduceAdd, List.setIfInBounds_toArray, List.set_cons_zero, List.set_cons_succ] at hts
  subst hts
  have T442 : Below w.heap.size w v441 := T436.trans E441.below
  have l443 : q420 < v435.heap.size := b438.lt
  have b444 : Bx v441 q420 29 #[.bool false, .slice none 0 0, .bool false, .slice none 0 0] := (E441.far q420 b438.lt (by simp)).trans b438
  have e447 : g441 1 = (.bool false) := E441.facts 1 (by decide)
  refine then_normal ?_
  refine wp_cond_false e447 ?_
  refine wp_skip ?_
  refine then_normal ?_
  refine wp_seq ?_
  have HB : w.heap.size ≤ v441.heap.size := T442.size
  refine wp_plan_seq [.val (.is (.string tx)), .val (.is (.int .i64 0)), .val (.tup2 (.is (.int .i64 (LA : Int))) (.is (.bool true))), .val (.tup2 (.is (.int .i64 (LA : Int))) (.is (.bool true))), .val (.is (.int .i64 (LA : Int))), .val (.is (.bool true)), .val (.is (.int .i64 (LA : Int))), .val (.is (.bool true))] [] [] w.heap.size (by kernel_rfl) (by kernel_rfl) trivial HB ?_ ?_
  · exact ⟨fun s v h => does_val rfl rfl (x_move) (h.same 0 rfl),
      fun s v h => does_val rfl rfl (x_move) ((h.same 5 rfl).trans e440),
      fun s v h => does_call rfl rfl (x_call2 Try.call73) (digits_k (fr := 0) (h.dep 0 rfl) (h.dep 1 rfl) hg1 hg2 (by omega) hg3 hg4),
      fun s v h => does_val rfl rfl (x_move) (h.dep 2 rfl),
      fun s v h => by obtain ⟨r0, r1, e, f0, f1⟩ := tup2_at (h.dep 3 rfl); exact does_val rfl rfl (x_ext e rfl) f0,
      fun s v h => by obtain ⟨r0, r1, e, f0, f1⟩ := tup2_at (h.dep 3 rfl); exact does_val rfl rfl (x_ext e rfl) f1,
      fun s v h => does_val rfl rfl (x_assign) (h.dep 4 rfl),
      fun s v h => does_val rfl rfl (x_assign) (h.dep 5 rfl), trivial⟩
  intro g448 ts v448 hts E448
  simp only [fillL, Nat.reduceAdd, List.setIfInBounds_toArray, List.set_cons_zero, List.set_cons_succ] at hts
  subst hts
  have T449 : Below w.heap.size w v448 := T442.trans E448.below
  have l450 : q420 < v441.heap.size := b444.lt
  have b451 : Bx v448 q420 29 #[.bool false, .slice none 0 0, .bool false, .slice none 0 0] := (E448.far q420 b444.lt (by simp)).trans b444
  have e457 : g448 6 = (.int .i64 (LA : Int)) := E448.facts 6 (by decide)
  have e458 : g448 7 = (.bool true) := E448.facts 7 (by decide)
  refine then_normal ?_
  refine wp_seq ?_
  refine wp_seq ?_
  have HB : w.heap.size ≤ v448.heap.size := T449.size
  refine wp_plan_seq [.val (.is (.bool true)), .val (.is (.bool false)), .val (.is (.bool false)), .val (.is (.int .i64 0)), .val (.is (.bool false)), .val (.is (.bool false)), .val (.is undef), .val (.is undef), .val (.is undef), .val (.is (.bool false)), .val (.is (.bool false))] [] [] w.heap.size (by kernel_rfl) (by kernel_rfl) trivial HB ?_ ?_
  · exact ⟨fun s v h => does_val rfl rfl (x_move) ((h.same 7 rfl).trans e458),
      fun s v h => does_val rfl rfl (x_not (h.dep 0 rfl)) rfl,
      fun s v h => does_val rfl rfl (x_move) (h.dep 1 rfl),
      fun s v h => does_val rfl (wanted_by (b := false) (want := false) rfl rfl (h.dep 2 rfl)) (x_move) ((h.same 5 rfl).trans e440),
      fun s v h => does_val rfl (wanted_by (b := false) (want := false) rfl rfl (h.dep 2 rfl)) (x_eql_int (h.dep 3 rfl) rfl) rfl,
      fun s v h => does_val rfl (wanted_by (b := false) (want := false) rfl rfl (h.dep 2 rfl)) (x_move) (h.dep 4 rfl),
      fun s v h => does_skip rfl (wanted_by (b := false) (want := true) rfl rfl (h.dep 5 rfl)) rfl,
      fun s v h => does_skip rfl (wanted_by (b := false) (want := true) rfl rfl (h.dep 5 rfl)) rfl,
      fun s v h => does_skip rfl (wanted_by (b := false) (want := true) rfl rfl (h.dep 5 rfl)) rfl,
      fun s v h => does_val rfl (wanted_by (b := false) (want := false) rfl rfl (h.dep 2 rfl)) (x_pick (h.dep 5 rfl)) rfl,
      fun s v h => does_val rfl rfl (x_pick (h.dep 2 rfl)) (h.dep 9 rfl), trivial⟩
  intro g459 ts v459 hts E459
  simp only [fillL, Nat.reduceAdd, List.setIfInBounds_toArray, List.set_cons_zero, List.set_cons_succ] at hts
  subst hts
  have T460 : Below w.heap.size w v459 := T449.trans E459.below
  have l461 : q420 < v448.heap.size := b451.lt
  have b462 : Bx v459 q420 29 #[.bool false, .slice none 0 0, .bool false, .slice none 0 0] := (E459.far q420 b451.lt (by simp)).trans b451
  have e474 : g459 10 = (.bool false) := E459.facts 10 (by decide)
  refine then_normal ?_
  refine wp_cond_false e474 ?_
  refine wp_skip ?_
  refine then_normal ?_
  refine wp_seq ?_
  have HB : w.heap.size ≤ v459.heap.size := T460.size
  refine wp_plan_seq [.val (.is (.string tx)), .val (.is (.int .i64 (LA : Int))), .val (.is (.string (tx.extract 0 LA))), .val (.cz n), .new 2 none, .put 8 40] [] [] w.heap.size (by kernel_rfl) (by kernel_rfl) trivial HB ?_ ?_
  · exact ⟨fun s v h => does_val rfl rfl (x_move) (h.same 0 rfl),
      fun s v h => does_val rfl rfl (x_move) ((h.same 6 rfl).trans e457),
      fun s v h => does_val rfl rfl (x_cut_to (h.dep 0 rfl) (k := LA) (h.dep 1 rfl) (by omega)) rfl,
      fun s v h => does_call rfl rfl (x_call1 Try.call74) (hn _ _ (h.dep 2 rfl)),
      fun s v h => does_new rfl rfl x_alloc_z (okz _ _ _ _) rfl (.inl rfl),
      fun s v h => by obtain ⟨q, e1, e2, e3⟩ := new_at (h.dep 4 rfl); exact does_put_z rfl rfl e1 (h.dep 3 rfl).shape e3 (Nat.le_trans HB e2), trivial⟩
  intro g475 ts v475 hts E475
  simp only [fillL, Nat.reduceAdd, List.setIfInBounds_toArray, List.set_cons_zero, List.set_cons_succ] at hts
  subst hts
  have T476 : Below w.heap.size w v475 := T460.trans E475.below
  have l477 : q420 < v459.heap.size := b462.lt
  have b478 : Bx v475 q420 29 #[.bool false, .slice none 0 0, .bool false, .slice none 0 0] := (E475.far q420 b462.lt (by simp)).trans b462
  have f483 : Cz v475 (g475 3) n := E475.facts 3 (by decide)
  obtain ⟨q484, p485, l486, o487⟩ : ∃ q, g475 4 = .pointer (some ⟨q, 0, none⟩) ∧ v459.heap.size ≤ q ∧ OkB v475 q 2 := E475.facts 4 (by decide)
  have h488 : w.heap.size ≤ q484 := Nat.le_trans HB l486
  have n489 : q420 ≠ q484 := by omega
  obtain ⟨t490, x492, A493, m494, c495, e496, b491⟩ := put_info (E475.facts 5 (by decide)) p485 f483.shape
  have f497 : Cz v475 (.agg #[.bool x492, .slice A493 m494 c495]) n := f483.at e496.symm
  refine then_normal ?_
  refine wp_seq ?_
  have HB : w.heap.size ≤ v475.heap.size := T476.size
  refine wp_plan_seq [.val (.cz 1), .new 2 none, .put 9 41] [] [] w.heap.size (by kernel_rfl) (by kernel_rfl) trivial HB ?_ ?_
  · exact ⟨fun s v h => does_call rfl rfl (x_call1 Try.call52) (of_k rfl (by decide) (by decide)),
      fun s v h => does_new rfl rfl x_alloc_z (okz _ _ _ _) rfl (.inl rfl),
      fun s v h => by obtain ⟨q, e1, e2, e3⟩ := new_at (h.dep 1 rfl); exact does_put_z rfl rfl e1 (h.dep 0 rfl).shape e3 (Nat.le_trans HB e2), trivial⟩
  intro g498 ts v498 hts E498
  simp only [fillL, Nat.reduceAdd, List.setIfInBounds_toArray, List.set_cons_zero, List.set_cons_succ] at hts
  subst hts
  have T499 : Below w.heap.size w v498 := T476.trans E498.below
  have l500 : q420 < v475.heap.size := b478.lt
  have l501 : q484 < v475.heap.size := b491.lt
  have b502 : Bx v498 q420 29 #[.bool false, .slice none 0 0, .bool false, .slice none 0 0] := (E498.far q420 b478.lt (by simp)).trans b478
  have b503 : Bx v498 q484 t490 #[.bool x492, .slice A493 m494 c495] := (E498.far q484 b491.lt (by simp)).trans b491
  have f506 := (f497.mono E498.mono)
  have f507 : Cz v498 (g498 0) 1 := E498.facts 0 (by decide)
  obtain ⟨q508, p509, l510, o511⟩ : ∃ q, g498 1 = .pointer (some ⟨q, 0, none⟩) ∧ v475.heap.size ≤ q ∧ OkB v498 q 2 := E498.facts 1 (by decide)
  have h512 : w.heap.size ≤ q508 := Nat.le_trans HB l510
  have n513 : q420 ≠ q508 := by omega
  obtain ⟨t515, x517, A518, m519, c520, e521, b516⟩ := put_info (E498.facts 2 (by decide)) p509 f507.shape
  have f522 : Cz v498 (.agg #[.bool x517, .slice A518 m519 c520]) 1 := f507.at e521.symm
  refine then_normal ?_
  refine wp_seq ?_
  refine wp_seq ?_
  have HB : w.heap.size ≤ v498.heap.size := T499.size
  refine wp_plan_seq [.val (.is (.int .i64 (LA : Int))), .val (.is (.string tx)), .val (.is (.int .i64 (tx.size : Int))), .val (.is (.bool false)), .val (.is (.bool false)), .val (.is undef), .val (.is undef), .val (.is undef), .val (.is undef), .val (.is (.bool false))] [] [] w.heap.size (by kernel_rfl) (by kernel_rfl) trivial HB ?_ ?_
  · exact ⟨fun s v h => does_val rfl rfl (x_move) ((h.same 6 rfl).trans e457),
      fun s v h => does_val rfl rfl (x_move) (h.same 0 rfl),
      fun s v h => does_val rfl rfl (x_len_str (h.dep 1 rfl)) rfl,
      fun s v h => does_val rfl rfl (x_lss (h.dep 0 rfl) (h.dep 2 rfl)) (congrArg Value.bool hlt2),
      fun s v h => does_val rfl rfl (x_move) (h.dep 3 rfl),
      fun s v h => does_skip rfl (wanted_by (b := false) (want := true) rfl rfl (h.dep 4 rfl)) rfl,
      fun s v h => does_skip rfl (wanted_by (b := false) (want := true) rfl rfl (h.dep 4 rfl)) rfl,
      fun s v h => does_skip rfl (wanted_by (b := false) (want := true) rfl rfl (h.dep 4 rfl)) rfl,
      fun s v h => does_skip rfl (wanted_by (b := false) (want := true) rfl rfl (h.dep 4 rfl)) rfl,
      fun s v h => does_val rfl rfl (x_pick (h.dep 4 rfl)) rfl, trivial⟩
  intro g523 ts v523 hts E523
  simp only [fillL, Nat.reduceAdd, List.setIfInBounds_toArray, List.set_cons_zero, List.set_cons_succ] at hts
  subst hts
  have T524 : Below w.heap.size w v523 := T499.trans E523.below
  have l525 : q420 < v498.heap.size := b502.lt
  have l526 : q484 < v498.heap.size := b503.lt
  have l527 : q508 < v498.heap.size := b516.lt
  have b528 : Bx v523 q420 29 #[.bool false, .slice none 0 0, .bool false, .slice none 0 0] := (E523.far q420 b502.lt (by simp)).trans b502
  have b529 : Bx v523 q484 t490 #[.bool x492, .slice A493 m494 c495] := (E523.far q484 b503.lt (by simp)).trans b503
  have b530 : Bx v523 q508 t515 #[.bool x517, .slice A518 m519 c520] := (E523.far q508 b516.lt (by simp)).trans b516
  have f533 := (f506.mono E523.mono)
  have f535 := (f522.mono E523.mono)
  have e545 : g523 9 = (.bool false) := E523.facts 9 (by decide)
  refine then_normal ?_
  refine wp_cond_false e545 ?_
  refine wp_skip ?_
  refine then_normal ?_
  refine wp_seq ?_
  refine wp_seq ?_
  have HB : w.heap.size ≤ v523.heap.size := T524.size
  refine wp_plan_seq [.val (.is (.int .i64 (LA : Int))), .val (.is (.string tx)), .val (.is (.int .i64 (tx.size : Int))), .val (.is (.bool false))] [] [] w.heap.size (by kernel_rfl) (by kernel_rfl) trivial HB ?_ ?_
  · exact ⟨fun s v h => does_val rfl rfl (x_move) ((h.same 6 rfl).trans e457),
      fun s v h => does_val rfl rfl (x_move) (h.same 0 rfl),
      fun s v h => does_val rfl rfl (x_len_str (h.dep 1 rfl)) rfl,
      fun s v h => does_val rfl rfl (x_lss (h.dep 0 rfl) (h.dep 2 rfl)) (congrArg Value.bool hlt2), trivial⟩
  intro g546 ts v546 hts E546
  simp only [fillL, Nat.reduceAdd, List.setIfInBounds_toArray, List.set_cons_zero, List.set_cons_succ] at hts
  subst hts
  have T547 : Below w.heap.size w v546 := T524.trans E546.below
  have l548 : q420 < v523.heap.size := b528.lt
  have l549 : q484 < v523.heap.size := b529.lt
  have l550 : q508 < v523.heap.size := b530.lt
  have b551 : Bx v546 q420 29 #[.bool false, .slice none 0 0, .bool false, .slice none 0 0] := (E546.far q420 b528.lt (by simp)).trans b528
  have b552 : Bx v546 q484 t490 #[.bool x492, .slice A493 m494 c495] := (E546.far q484 b529.lt (by simp)).trans b529
  have b553 : Bx v546 q508 t515 #[.bool x517, .slice A518 m519 c520] := (E546.far q508 b530.lt (by simp)).trans b530
  have f556 := (f533.mono E546.mono)
  have f558 := (f535.mono E546.mono)
  have e562 : g546 3 = (.bool false) := E546.facts 3 (by decide)
  refine then_normal ?_
  refine wp_cond_false e562 ?_
  refine wp_skip ?_
  refine then_normal ?_
  refine wp_seq ?_
  have HB : w.heap.size ≤ v546.heap.size := T547.size
  refine wp_plan_seq [.val (.cz n), .val (.cz 1), .val (.pair (.cz (rn n 1)) (.cz (rd n 1))), .put 2 86, .val (.is (.int .i64 0)), .val (.is (.int .i64 0))] [2] [q420] w.heap.size (by kernel_rfl) (by kernel_rfl) ⟨p421, b551.lt, (by simp), trivial⟩ HB ?_ ?_
  · exact ⟨fun s v h => does_val rfl rfl (x_load_z ((h.same 8 rfl).trans p485) ((h.far q484 b552.lt (nin1 n489.symm)).trans b552)) (f556.mono h.mono),
      fun s v h => does_val rfl rfl (x_load_z ((h.same 9 rfl).trans p509) ((h.far q508 b553.lt (nin1 n513.symm)).trans b553)) (f558.mono h.mono),
      fun s v h => does_call rfl rfl (x_call2 Try.call44) (qmade_k ((h.dep 0 rfl).az (N := N) ln) ((h.dep 1 rfl).az (N := 1) (show (digs (Int.natAbs 1)).length ≤ 1 from digs_len_le (by decide))) (by omega) (by omega) (by decide)),
      fun s v h => does_put_r rfl rfl ((h.same 2 rfl).trans p421) (pair_shape (num_cz _) (num_cz _) (h.dep 2 rfl)) (h.mono.ok _ _ b551.ok4) h426,
      fun s v h => does_val rfl rfl (x_assign) rfl,
      fun s v h => does_val rfl rfl (x_assign) rfl, trivial⟩
  intro g563 ts v563 hts E563
  simp only [fillL, Nat.reduceAdd, List.setIfInBounds_toArray, List.set_cons_zero, List.set_cons_succ] at hts
  subst hts
  have T564 : Below w.heap.size w v563 := T547.trans E563.below
  have l565 : q420 < v546.heap.size := b551.lt
  have l566 : q484 < v546.heap.size := b552.lt
  have l567 : q508 < v546.heap.size := b553.lt
  have f577 : ((.pair (.cz (rn n 1)) (.cz (rd n 1))) : Known).p v563 (g563 2) := E563.facts 2 (by decide)
  have e578 : g563 4 = (.int .i64 0) := E563.facts 4 (by decide)
  have e579 : g563 5 = (.int .i64 0) := E563.facts 5 (by decide)
  obtain ⟨t580, x582, A583, m584, c585, x586, A587, m588, c589, e590, b581⟩ := put_info4 (E563.facts 3 (by decide)) p421 (pair_shape (num_cz _) (num_cz _) f577)
  have f591 : ((.pair (.cz (rn n 1)) (.cz (rd n 1))) : Known).p v563 (.agg #[.bool x582, .slice A583 m584 c585, .bool x586, .slice A587 m588 c589]) := pair_at f577 e590.symm
  refine then_normal ?_
  refine wp_ret ?_
  exact bodyPost_ret (ret_rtt rfl p421 b581) rfl ⟨_, rfl, ⟨_, _, _, rfl, (by have := f591; rw [← hd1] at this; exact this), e578, e579⟩, T564⟩

set_option maxHeartbeats 4000000 in
set_option maxRecDepth 8000 in
theorem qread_01 {w : World} {tx : ByteArray} {LA : Nat} {n dd : Int} {N : Nat} (hL : decide ((131072 : Int) < (tx.size : Int)) = false) (hpf : Lib.hasPrefix tx.data.toList [45] = false) (hg1 : 0 < LA) (hg2 : LA ≤ tx.size) (hg3 : LA = tx.size ∨ (LA < tx.size ∧ byteN tx LA < 48)) (hg4 : Hid (∀ j, 0 ≤ j → j < LA → GoodR tx 0 j)) (hn : ∀ (v : World) (y : Value), y = .string (tx.extract 0 LA) → Calls Try.prog 74 #[y] v (Ret (.cz n) v)) (hd0 : dd ≠ 0) (ln : (digs n.natAbs).length ≤ N) (ldd : (digs dd.natAbs).length ≤ N) (hN : N ≤ 1000000) (hlt : LA < tx.size) (hsl : ((byteN tx LA : Int) == 47) = true) (hk1 : LA + 1 < tx.size) (hk4 : Hid (∀ j, LA + 1 ≤ j → j < tx.size → GoodR tx (LA + 1) j)) (hz2 : ((byteN tx (LA + 1) : Int) == 48) = false) (hd : ∀ (v : World) (y : Value), y = .string (tx.extract (LA + 1) tx.size) → Calls Try.prog 74 #[y] v (Ret (.cz dd) v))  : Calls Try.prog 40 #[.string tx] w (Ret (.tup3 (.pair (.cz (rn n dd)) (.cz (rd n dd))) (.is (.int .i64 0)) (.is (.int .i64 0))) w) := by
  have hsz : tx.size ≤ 131072 := by have := of_decide_eq_false hL; omega
  have hlt2 : decide ((LA : Int) < (tx.size : Int)) = true := decide_eq_true (by omega)
  have hss : decide ((tx.size : Int) < (tx.size : Int)) = false := decide_eq_false (by omega)
  have T0 : Below w.heap.size w w := Below.refl _ _
  go_enter Try.func40, Try.ntmps40
  refine wp_seq ?_
  have HB : w.heap.size ≤ w.heap.size := T0.size
  refine wp_plan_seq [.new 4 (some (29, #[.bool false, .slice none 0 0, .bool false, .slice none 0 0])), .val (.is (.int .i64 0)), .val (.is (.int .i64 0))] [] [] w.heap.size (by kernel_rfl) (by kernel_rfl) trivial HB ?_ ?_
  · exact ⟨fun s v h => does_new rfl rfl x_alloc_r (okr _ _ _ _ _ _ _ _) rfl (.inr rfl),
      fun s v h => does_val rfl rfl (x_assign) rfl,
      fun s v h => does_val rfl rfl (x_assign) rfl, trivial⟩
  intro g592 ts v592 hts E592
  simp only [fillL, Nat.reduceAdd, List.setIfInBounds_toArray, List.set_cons_zero, List.set_cons_succ] at hts
  subst hts
  have T593 : Below w.heap.size w v592 := T0.trans E592.below
  obtain ⟨q596, p597, l598, o599, b600⟩ : ∃ q, g592 0 = .pointer (some ⟨q, 0, none⟩) ∧ w.heap.size ≤ q ∧ OkB v592 q 4 ∧ Bx v592 q 29 #[.bool false, .slice none 0 0, .bool false, .slice none 0 0] := E592.facts 0 (by decide)
  have h602 : w.heap.size ≤ q596 := Nat.le_trans HB l598
  refine then_normal ?_
  refine wp_seq ?_
  refine wp_seq ?_
  have HB : w.heap.size ≤ v592.heap.size := T593.size
  refine wp_plan_seq [.val (.is (.string tx)), .val (.is (.int .i64 (tx.size : Int))), .val (.is (.bool false))] [] [] w.heap.size (by kernel_rfl) (by kernel_rfl) trivial HB ?_ ?_
  · exact ⟨fun s v h => does_val rfl rfl (x_move) (h.same 0 rfl),
      fun s v h => does_val rfl rfl (x_len_str (h.dep 0 rfl)) rfl,
      fun s v h => does_val rfl rfl (x_gtr (h.dep 1 rfl) rfl) (congrArg Value.bool hL), trivial⟩
  intro g603 ts v603 hts E603
  simp only [fillL, Nat.reduceAdd, List.setIfInBounds_toArray, List.set_cons_zero, List.set_cons_succ] at hts
  subst hts
  have T604 : Below w.heap.size w v603 := T593.trans E603.below
  have l605 : q596 < v592.heap.size := b600.lt
  have b606 : Bx v603 q596 29 #[.bool false, .slice none 0 0, .bool false, .slice none 0 0] := (E603.far q596 b600.lt (by simp)).trans b600
  have e610 : g603 2 = (.bool false) := E603.facts 2 (by decide)
  refine then_normal ?_
  refine wp_cond_false e610 ?_
  refine wp_skip ?_
  refine then_normal ?_
  refine wp_seq ?_
  have HB : w.heap.size ≤ v603.heap.size := T604.size
  refine wp_plan_seq [.val (.is (.int .i64 0))] [] [] w.heap.size (by kernel_rfl) (by kernel_rfl) trivial HB ?_ ?_
  · exact ⟨fun s v h => does_val rfl rfl (x_assign) rfl, trivial⟩
  intro g611 ts v611 hts E611
  simp only [fillL, List.setIfInBounds_toArray, List.set_cons_zero, List.set_cons_succ] at hts
  subst hts
  have T612 : Below w.heap.size w v611 := T604.trans E611.below
  have l613 : q596 < v603.heap.size := b606.lt
  have b614 : Bx v611 q596 29 #[.bool false, .slice none 0 0, .bool false, .slice none 0 0] := (E611.far q596 b606.lt (by simp)).trans b606
  have e616 : g611 0 = (.int .i64 0) := E611.facts 0 (by decide)
  refine then_normal ?_
  refine wp_seq ?_
  refine wp_seq ?_
  have HB : w.heap.size ≤ v611.heap.size := T612.size
  refine wp_plan_seq [.val (.is (.string tx)), .val (.is (.bool false))] [] [] w.heap.size (by kernel_rfl) (by kernel_rfl) trivial HB ?_ ?_
  · exact ⟨fun s v h => does_val rfl rfl (x_move) (h.same 0 rfl),
      fun s v h => does_call rfl rfl (x_call2 Try.call72) (prefix_k (h.dep 0 rfl) rfl hpf), trivial⟩
  intro g617 ts v617 hts E617
  simp only [fillL, Nat.reduceAdd, List.setIfInBounds_toArray, List.set_cons_zero, List.set_cons_succ] at hts
  subst hts
  have T618 : Below w.heap.size w v617 := T612.trans E617.below
  have l619 : q596 < v611.heap.size := b614.lt
  have b620 : Bx v617 q596 29 #[.bool false, .slice none 0 0, .bool false, .slice none 0 0] := (E617.far q596 b614.lt (by simp)).trans b614
  have e623 : g617 1 = (.bool false) := E617.facts 1 (by decide)
  refine then_normal ?_
  refine wp_cond_false e623 ?_
  refine wp_skip ?_
  refine then_normal ?_
  refine wp_seq ?_
  have HB : w.heap.size ≤ v617.heap.size := T618.size
  refine wp_plan_seq [.val (.is (.string tx)), .val (.is (.int .i64 0)), .val (.tup2 (.is (.int .i64 (LA : Int))) (.is (.bool true))), .val (.tup2 (.is (.int .i64 (LA : Int))) (.is (.bool true))), .val (.is (.int .i64 (LA : Int))), .val (.is (.bool true)), .val (.is (.int .i64 (LA : Int))), .val (.is (.bool true))] [] [] w.heap.size (by kernel_rfl) (by kernel_rfl) trivial HB ?_ ?_
  · exact ⟨fun s v h => does_val rfl rfl (x_move) (h.same 0 rfl),
      fun s v h => does_val rfl rfl (x_move) ((h.same 5 rfl).trans e616),
      fun s v h => does_call rfl rfl (x_call2 Try.call73) (digits_k (fr := 0) (h.dep 0 rfl) (h.dep 1 rfl) hg1 hg2 (by omega) hg3 hg4),
      fun s v h => does_val rfl rfl (x_move) (h.dep 2 rfl),
      fun s v h => by obtain ⟨r0, r1, e, f0, f1⟩ := tup2_at (h.dep 3 rfl); exact does_val rfl rfl (x_ext e rfl) f0,
      fun s v h => by obtain ⟨r0, r1, e, f0, f1⟩ := tup2_at (h.dep 3 rfl); exact does_val rfl rfl (x_ext e rfl) f1,
      fun s v h => does_val rfl rfl (x_assign) (h.dep 4 rfl),
      fun s v h => does_val rfl rfl (x_assign) (h.dep 5 rfl), trivial⟩
  intro g624 ts v624 hts E624
  simp only [fillL, Nat.reduceAdd, List.setIfInBounds_toArray, List.set_cons_zero, List.set_cons_succ] at hts
  subst hts
  have T625 : Below w.heap.size w v624 := T618.trans E624.below
  have l626 : q596 < v617.heap.size := b620.lt
  have b627 : Bx v624 q596 29 #[.bool false, .slice none 0 0, .bool false, .slice none 0 0] := (E624.far q596 b620.lt (by simp)).trans b620
  have e633 : g624 6 = (.int .i64 (LA : Int)) := E624.facts 6 (by decide)
  have e634 : g624 7 = (.bool true) := E624.facts 7 (by decide)
  refine then_normal ?_
  refine wp_seq ?_
  refine wp_seq ?_
  have HB : w.heap.size ≤ v624.heap.size := T625.size
  refine wp_plan_seq [.val (.is (.bool true)), .val (.is (.bool false)), .val (.is (.bool false)), .val (.is (.int .i64 0)), .val (.is (.bool false)), .val (.is (.bool false)), .val (.is undef), .val (.is undef), .val (.is undef), .val (.is (.bool false)), .val (.is (.bool false))] [] [] w.heap.size (by kernel_rfl) (by kernel_rfl) trivial HB ?_ ?_
  · exact ⟨fun s v h => does_val rfl rfl (x_move) ((h.same 7 rfl).trans e634),
      fun s v h => does_val rfl rfl (x_not (h.dep 0 rfl)) rfl,
      fun s v h => does_val rfl rfl (x_move) (h.dep 1 rfl),
      fun s v h => does_val rfl (wanted_by (b := false) (want := false) rfl rfl (h.dep 2 rfl)) (x_move) ((h.same 5 rfl).trans e616),
      fun s v h => does_val rfl (wanted_by (b := false) (want := false) rfl rfl (h.dep 2 rfl)) (x_eql_int (h.dep 3 rfl) rfl) rfl,
      fun s v h => does_val rfl (wanted_by (b := false) (want := false) rfl rfl (h.dep 2 rfl)) (x_move) (h.dep 4 rfl),
      fun s v h => does_skip rfl (wanted_by (b := false) (want := true) rfl rfl (h.dep 5 rfl)) rfl,
      fun s v h => does_skip rfl (wanted_by (b := false) (want := true) rfl rfl (h.dep 5 rfl)) rfl,
      fun s v h => does_skip rfl (wanted_by (b := false) (want := true) rfl rfl (h.dep 5 rfl)) rfl,
      fun s v h => does_val rfl (wanted_by (b := false) (want := false) rfl rfl (h.dep 2 rfl)) (x_pick (h.dep 5 rfl)) rfl,
      fun s v h => does_val rfl rfl (x_pick (h.dep 2 rfl)) (h.dep 9 rfl), trivial⟩
  intro g635 ts v635 hts E635
  simp only [fillL, Nat.reduceAdd, List.setIfInBounds_toArray, List.set_cons_zero, List.set_cons_succ] at hts
  subst hts
  have T636 : Below w.heap.size w v635 := T625.trans E635.below
  have l637 : q596 < v624.heap.size := b627.lt
  have b638 : Bx v635 q596 29 #[.bool false, .slice none 0 0, .bool false, .slice none 0 0] := (E635.far q596 b627.lt (by simp)).trans b627
  have e650 : g635 10 = (.bool false) := E635.facts 10 (by decide)
  refine then_normal ?_
  refine wp_cond_false e650 ?_
  refine wp_skip ?_
  refine then_normal ?_
  refine wp_seq ?_
  have HB : w.heap.size ≤ v635.heap.size := T636.size
  refine wp_plan_seq [.val (.is (.string tx)), .val (.is (.int .i64 (LA : Int))), .val (.is (.string (tx.extract 0 LA))), .val (.cz n), .new 2 none, .put 8 40] [] [] w.heap.size (by kernel_rfl) (by kernel_rfl) trivial HB ?_ ?_
  · exact ⟨fun s v h => does_val rfl rfl (x_move) (h.same 0 rfl),
      fun s v h => does_val rfl rfl (x_move) ((h.same 6 rfl).trans e633),
      fun s v h => does_val rfl rfl (x_cut_to (h.dep 0 rfl) (k := LA) (h.dep 1 rfl) (by omega)) rfl,
      fun s v h => does_call rfl rfl (x_call1 Try.call74) (hn _ _ (h.dep 2 rfl)),
      fun s v h => does_new rfl rfl x_alloc_z (okz _ _ _ _) rfl (.inl rfl),
      fun s v h => by obtain ⟨q, e1, e2, e3⟩ := new_at (h.dep 4 rfl); exact does_put_z rfl rfl e1 (h.dep 3 rfl).shape e3 (Nat.le_trans HB e2), trivial⟩
  intro g651 ts v651 hts E651
  simp only [fillL, Nat.reduceAdd, List.setIfInBounds_toArray, List.set_cons_zero, List.set_cons_succ] at hts
  subst hts
  have T652 : Below w.heap.size w v651 := T636.trans E651.below
  have l653 : q596 < v635.heap.size := b638.lt
  have b654 : Bx v651 q596 29 #[.bool false, .slice none 0 0, .bool false, .slice none 0 0] := (E651.far q596 b638.lt (by simp)).trans b638
  have f659 : Cz v651 (g651 3) n := E651.facts 3 (by decide)
  obtain ⟨q660, p661, l662, o663⟩ : ∃ q, g651 4 = .pointer (some ⟨q, 0, none⟩) ∧ v635.heap.size ≤ q ∧ OkB v651 q 2 := E651.facts 4 (by decide)
  have h664 : w.heap.size ≤ q660 := Nat.le_trans HB l662
  have n665 : q596 ≠ q660 := by omega
  obtain ⟨t666, x668, A669, m670, c671, e672, b667⟩ := put_info (E651.facts 5 (by decide)) p661 f659.shape
  have f673 : Cz v651 (.agg #[.bool x668, .slice A669 m670 c671]) n := f659.at e672.symm
  refine then_normal ?_
  refine wp_seq ?_
  have HB : w.heap.size ≤ v651.heap.size := T652.size
  refine wp_plan_seq [.val (.cz 1), .new 2 none, .put 9 41] [] [] w.heap.size (by kernel_rfl) (by kernel_rfl) trivial HB ?_ ?_
  · exact ⟨fun s v h => does_call rfl rfl (x_call1 Try.call52) (of_k rfl (by decide) (by decide)),
      fun s v h => does_new rfl rfl x_alloc_z (okz _ _ _ _) rfl (.inl rfl),
      fun s v h => by obtain ⟨q, e1, e2, e3⟩ := new_at (h.dep 1 rfl); exact does_put_z rfl rfl e1 (h.dep 0 rfl).shape e3 (Nat.le_trans HB e2), trivial⟩
  intro g674 ts v674 hts E674
  simp only [fillL, Nat.reduceAdd, List.setIfInBounds_toArray, List.set_cons_zero, List.set_cons_succ] at hts
  subst hts
  have T675 : Below w.heap.size w v674 := T652.trans E674.below
  have l676 : q596 < v651.heap.size := b654.lt
  have l677 : q660 < v651.heap.size := b667.lt
  have b678 : Bx v674 q596 29 #[.bool false, .slice none 0 0, .bool false, .slice none 0 0] := (E674.far q596 b654.lt (by simp)).trans b654
  have b679 : Bx v674 q660 t666 #[.bool x668, .slice A669 m670 c671] := (E674.far q660 b667.lt (by simp)).trans b667
  have f682 := (f673.mono E674.mono)
  have f683 : Cz v674 (g674 0) 1 := E674.facts 0 (by decide)
  obtain ⟨q684, p685, l686, o687⟩ : ∃ q, g674 1 = .pointer (some ⟨q, 0, none⟩) ∧ v651.heap.size ≤ q ∧ OkB v674 q 2 := E674.facts 1 (by decide)
  have h688 : w.heap.size ≤ q684 := Nat.le_trans HB l686
  have n689 : q596 ≠ q684 := by omega
  have n690 : q660 ≠ q684 := by omega
  obtain ⟨t691, x693, A694, m695, c696, e697, b692⟩ := put_info (E674.facts 2 (by decide)) p685 f683.shape
  refine then_normal ?_
  refine wp_seq ?_
  refine wp_seq ?_
  have HB : w.heap.size ≤ v674.heap.size := T675.size
  refine wp_plan_seq [.val (.is (.int .i64 (LA : Int))), .val (.is (.string tx)), .val (.is (.int .i64 (tx.size : Int))), .val (.is (.bool true)), .val (.is (.bool true)), .val (.is (.string tx)), .val (.is (.int .i64 (LA : Int))), .val (.is (.int .u8 (byteN tx LA : Int))), .val (.is (.bool true)), .val (.is (.bool true))] [] [] w.heap.size (by kernel_rfl) (by kernel_rfl) trivial HB ?_ ?_
  · exact ⟨fun s v h => does_val rfl rfl (x_move) ((h.same 6 rfl).trans e633),
      fun s v h => does_val rfl rfl (x_move) (h.same 0 rfl),
      fun s v h => does_val rfl rfl (x_len_str (h.dep 1 rfl)) rfl,
      fun s v h => does_val rfl rfl (x_lss (h.dep 0 rfl) (h.dep 2 rfl)) (congrArg Value.bool hlt2),
      fun s v h => does_val rfl rfl (x_move) (h.dep 3 rfl),
      fun s v h => does_val rfl (wanted_by (b := true) (want := true) rfl rfl (h.dep 4 rfl)) (x_move) (h.same 0 rfl),
      fun s v h => does_val rfl (wanted_by (b := true) (want := true) rfl rfl (h.dep 4 rfl)) (x_move) ((h.same 6 rfl).trans e633),
      fun s v h => does_val rfl (wanted_by (b := true) (want := true) rfl rfl (h.dep 4 rfl)) (x_index_str (h.dep 5 rfl) (k := LA) (h.dep 6 rfl) (by omega)) rfl,
      fun s v h => does_val rfl (wanted_by (b := true) (want := true) rfl rfl (h.dep 4 rfl)) (x_eql_u8 (h.dep 7 rfl) rfl) (congrArg Value.bool hsl),
      fun s v h => does_val rfl rfl (x_pick (h.dep 4 rfl)) (h.dep 8 rfl), trivial⟩
  intro g699 ts v699 hts E699
  simp only [fillL, Nat.reduceAdd, List.setIfInBounds_toArray, List.set_cons_zero, List.set_cons_succ] at hts
  subst hts
  have T700 : Below w.heap.size w v699 := T675.trans E699.below
  have l701 : q596 < v674.heap.size := b678.lt
  have l702 : q660 < v674.heap.size := b679.lt
  have l703 : q684 < v674.heap.size := b692.lt
  have b704 : Bx v699 q596 29 #[.bool false, .slice none 0 0, .bool false, .slice none 0 0] := (E699.far q596 b678.lt (by simp)).trans b678
  have b705 : Bx v699 q660 t666 #[.bool x668, .slice A669 m670 c671] := (E699.far q660 b679.lt (by simp)).trans b679
  have b706 : Bx v699 q684 t691 #[.bool x693, .slice A694 m695 c696] := (E699.far q684 b692.lt (by simp)).trans b692
  have f709 := (f682.mono E699.mono)
  have e721 : g699 9 = (.bool true) := E699.facts 9 (by decide)
  refine then_normal ?_
  refine wp_cond_true e721 ?_
  refine wp_seq ?_
  have HB : w.heap.size ≤ v699.heap.size := T700.size
  refine wp_plan_seq [.val (.is (.string tx)), .val (.is (.int .i64 (LA : Int))), .val (.is (.int .i64 ((LA + 1 : Nat) : Int))), .val (.tup2 (.is (.int .i64 (tx.size : Int))) (.is (.bool true))), .val (.tup2 (.is (.int .i64 (tx.size : Int))) (.is (.bool true))), .val (.is (.int .i64 (tx.size : Int))), .val (.is (.bool true)), .val (.is (.int .i64 (tx.size : Int))), .val (.is (.bool true))] [] [] w.heap.size (by kernel_rfl) (by kernel_rfl) trivial HB ?_ ?_
  · exact ⟨fun s v h => does_val rfl rfl (x_move) (h.same 0 rfl),
      fun s v h => does_val rfl rfl (x_move) ((h.same 6 rfl).trans e633),
      fun s v h => does_val rfl rfl (x_add (h.dep 1 rfl) rfl (by rw [IntKind.wrap_i64]; omega)) (congrArg (Value.int .i64) (by omega)),
      fun s v h => does_call rfl rfl (x_call2 Try.call73) (digits_k (fr := LA + 1) (h.dep 0 rfl) (h.dep 2 rfl) hk1 (Nat.le_refl _) (by omega) (.inl rfl) hk4),
      fun s v h => does_val rfl rfl (x_move) (h.dep 3 rfl),
      fun s v h => by obtain ⟨r0, r1, e, f0, f1⟩ := tup2_at (h.dep 4 rfl); exact does_val rfl rfl (x_ext e rfl) f0,
      fun s v h => by obtain ⟨r0, r1, e, f0, f1⟩ := tup2_at (h.dep 4 rfl); exact does_val rfl rfl (x_ext e rfl) f1,
      fun s v h => does_val rfl rfl (x_assign) (h.dep 5 rfl),
      fun s v h => does_val rfl rfl (x_assign) (h.dep 6 rfl), trivial⟩
  intro g722 ts v722 hts E722
  simp only [fillL, Nat.reduceAdd, List.setIfInBounds_toArray, List.set_cons_zero, List.set_cons_succ] at hts
  subst hts
  have T723 : Below w.heap.size w v722 := T700.trans E722.below
  have l724 : q596 < v699.heap.size := b704.lt
  have l725 : q660 < v699.heap.size := b705.lt
  have l726 : q684 < v699.heap.size := b706.lt
  have b727 : Bx v722 q596 29 #[.bool false, .slice none 0 0, .bool false, .slice none 0 0] := (E722.far q596 b704.lt (by simp)).trans b704
  have b728 : Bx v722 q660 t666 #[.bool x668, .slice A669 m670 c671] := (E722.far q660 b705.lt (by simp)).trans b705
  have b729 : Bx v722 q684 t691 #[.bool x693, .slice A694 m695 c696] := (E722.far q684 b706.lt (by simp)).trans b706
  have f732 := (f709.mono E722.mono)
  have e740 : g722 7 = (.int .i64 (tx.size : Int)) := E722.facts 7 (by decide)
  have e741 : g722 8 = (.bool true) := E722.facts 8 (by decide)
  refine then_normal ?_
  refine wp_seq ?_
  refine wp_seq ?_
  have HB : w.heap.size ≤ v722.heap.size := T723.size
  refine wp_plan_seq [.val (.is (.bool true)), .val (.is (.bool false)), .val (.is (.bool false)), .val (.is (.string tx)), .val (.is (.int .i64 (LA : Int))), .val (.is (.int .i64 ((LA + 1 : Nat) : Int))), .val (.is (.int .u8 (byteN tx (LA + 1) : Int))), .val (.is (.bool false)), .val (.is (.bool false))] [] [] w.heap.size (by kernel_rfl) (by kernel_rfl) trivial HB ?_ ?_
  · exact ⟨fun s v h => does_val rfl rfl (x_move) ((h.same 11 rfl).trans e741),
      fun s v h => does_val rfl rfl (x_not (h.dep 0 rfl)) rfl,
      fun s v h => does_val rfl rfl (x_move) (h.dep 1 rfl),
      fun s v h => does_val rfl (wanted_by (b := false) (want := false) rfl rfl (h.dep 2 rfl)) (x_move) (h.same 0 rfl),
      fun s v h => does_val rfl (wanted_by (b := false) (want := false) rfl rfl (h.dep 2 rfl)) (x_move) ((h.same 6 rfl).trans e633),
      fun s v h => does_val rfl (wanted_by (b := false) (want := false) rfl rfl (h.dep 2 rfl)) (x_add (h.dep 4 rfl) rfl (by rw [IntKind.wrap_i64]; omega)) (congrArg (Value.int .i64) (by omega)),
      fun s v h => does_val rfl (wanted_by (b := false) (want := false) rfl rfl (h.dep 2 rfl)) (x_index_str (h.dep 3 rfl) (k := (LA + 1)) (h.dep 5 rfl) (by omega)) rfl,
      fun s v h => does_val rfl (wanted_by (b := false) (want := false) rfl rfl (h.dep 2 rfl)) (x_eql_u8 (h.dep 6 rfl) rfl) (congrArg Value.bool hz2),
      fun s v h => does_val rfl rfl (x_pick (h.dep 2 rfl)) (h.dep 7 rfl), trivial⟩
  intro g742 ts v742 hts E742
  simp only [fillL, Nat.reduceAdd, List.setIfInBounds_toArray, List.set_cons_zero, List.set_cons_succ] at hts
  subst hts
  have T743 : Below w.heap.size w v742 := T723.trans E742.below
  have l744 : q596 < v722.heap.size := b727.lt
  have l745 : q660 < v722.heap.size := b728.lt
  have l746 : q684 < v722.heap.size := b729.lt
  have b747 : Bx v742 q596 29 #[.bool false, .slice none 0 0, .bool false, .slice none 0 0] := (E742.far q596 b727.lt (by simp)).trans b727
  have b748 : Bx v742 q660 t666 #[.bool x668, .slice A669 m670 c671] := (E742.far q660 b728.lt (by simp)).trans b728
  have b749 : Bx v742 q684 t691 #[.bool x693, .slice A694 m695 c696] := (E742.far q684 b729.lt (by simp)).trans b729
  have f752 := (f732.mono E742.mono)
  have e763 : g742 8 = (.bool false) := E742.facts 8 (by decide)
  refine then_normal ?_
  refine wp_cond_false e763 ?_
  refine wp_skip ?_
  refine then_normal ?_
  refine wp_seq ?_
  have HB : w.heap.size ≤ v742.heap.size := T743.size
  refine wp_plan_seq [.val (.is (.string tx)), .val (.is (.int .i64 (LA : Int))), .val (.is (.int .i64 ((LA + 1 : Nat) : Int))), .val (.is (.int .i64 (tx.size : Int))), .val (.is (.string (tx.extract (LA + 1) tx.size))), .val (.cz dd), .put 9 76] [9] [q684] w.heap.size (by kernel_rfl) (by kernel_rfl) ⟨p685, b749.lt, (by simp), trivial⟩ HB ?_ ?_
  · exact ⟨fun s v h => does_val rfl rfl (x_move) (h.same 0 rfl),
      fun s v h => does_val rfl rfl (x_move) ((h.same 6 rfl).trans e633),
      fun s v h => does_val rfl rfl (x_add (h.dep 1 rfl) rfl (by rw [IntKind.wrap_i64]; omega)) (congrArg (Value.int .i64) (by omega)),
      fun s v h => does_val rfl rfl (x_move) ((h.same 10 rfl).trans e740),
      fun s v h => does_val rfl rfl (x_cut_both (h.dep 0 rfl) (k := (LA + 1)) (l := tx.size) (h.dep 2 rfl) (h.dep 3 rfl) (by omega) (by omega)) rfl,
      fun s v h => does_call rfl rfl (x_call1 Try.call74) (hd _ _ (h.dep 4 rfl)),
      fun s v h => does_put_z rfl rfl ((h.same 9 rfl).trans p685) (h.dep 5 rfl).shape (h.mono.ok _ _ b749.ok2) h688, trivial⟩
  intro g764 ts v764 hts E764
  simp only [fillL, Nat.reduceAdd, List.setIfInBounds_toArray, List.set_cons_zero, List.set_cons_succ] at hts
  subst hts
  have T765 : Below w.heap.size w v764 := T743.trans E764.below
  have l766 : q596 < v742.heap.size := b747.lt
  have l767 : q660 < v742.heap.size := b748.lt
  have l768 : q684 < v742.heap.size := b749.lt
  have b769 : Bx v764 q596 29 #[.bool false, .slice none 0 0, .bool false, .slice none 0 0] := (E764.far q596 b747.lt (nin1 n689)).trans b747
  have b770 : Bx v764 q660 t666 #[.bool x668, .slice A669 m670 c671] := (E764.far q660 b748.lt (nin1 n690)).trans b748
  have f773 := (f752.mono E764.mono)
  have f781 : Cz v764 (g764 5) dd := E764.facts 5 (by decide)
  obtain ⟨t782, x784, A785, m786, c787, e788, b783⟩ := put_info (E764.facts 6 (by decide)) p685 f781.shape
  have f789 : Cz v764 (.agg #[.bool x784, .slice A785 m786 c787]) dd := f781.at e788.symm
  refine then_normal ?_
  have HB : w.heap.size ≤ v764.heap.size := T765.size
  refine wp_plan_seq [.val (.is (.int .i64 (tx.size : Int))), .val (.is (.int .i64 (tx.size : Int)))] [] [] w.heap.size (by kernel_rfl) (by kernel_rfl) trivial HB ?_ ?_
  · exact ⟨fun s v h => does_val rfl rfl (x_move) ((h.same 10 rfl).trans e740),
      fun s v h => does_val rfl rfl (x_assign) (h.dep 0 rfl), trivial⟩
  intro g790 ts v790 hts E790
  simp only [fillL, Nat.reduceAdd, List.setIfInBounds_toArray, List.set_cons_zero, List.set_cons_succ] at hts
  subst hts
  have T791 : Below w.heap.size w v790 := T765.trans E790.below
  have l792 : q596 < v764.heap.size := b769.lt
  have l793 : q660 < v764.heap.size := b770.lt
  have l794 : q684 < v764.heap.size := b783.lt
  have b795 : Bx v790 q596 29 #[.bool false, .slice none 0 0, .bool false, .slice none 0 0] := (E790.far q596 b769.lt (by simp)).trans b769
  have b796 : Bx v790 q660 t666 #[.bool x668, .slice A669 m670 c671] := (E790.far q660 b770.lt (by simp)).trans b770
  have b797 : Bx v790 q684 t782 #[.bool x784, .slice A785 m786 c787] := (E790.far q684 b783.lt (by simp)).trans b783
  have f800 := (f773.mono E790.mono)
  have f804 := (f789.mono E790.mono)
  have e806 : g790 1 = (.int .i64 (tx.size : Int)) := E790.facts 1 (by decide)
  refine then_normal ?_
  refine wp_seq ?_
  refine wp_seq ?_
  have HB : w.heap.size ≤ v790.heap.size := T791.size
  refine wp_plan_seq [.val (.is (.int .i64 (tx.size : Int))), .val (.is (.string tx)), .val (.is (.int .i64 (tx.size : Int))), .val (.is (.bool false))] [] [] w.heap.size (by kernel_rfl) (by kernel_rfl) trivial HB ?_ ?_
  · exact ⟨fun s v h => does_val rfl rfl (x_move) ((h.same 6 rfl).trans e806),
      fun s v h => does_val rfl rfl (x_move) (h.same 0 rfl),
      fun s v h => does_val rfl rfl (x_len_str (h.dep 1 rfl)) rfl,
      fun s v h => does_val rfl rfl (x_lss (h.dep 0 rfl) (h.dep 2 rfl)) (congrArg Value.bool hss), trivial⟩
  intro g807 ts v807 hts E807
  simp only [fillL, Nat.reduceAdd, List.setIfInBounds_toArray, List.set_cons_zero, List.set_cons_succ] at hts
  subst hts
  have T808 : Below w.heap.size w v807 := T791.trans E807.below
  have l809 : q596 < v790.heap.size := b795.lt
  have l810 : q660 < v790.heap.size := b796.lt
  have l811 : q684 < v790.heap.size := b797.lt
  have b812 : Bx v807 q596 29 #[.bool false, .slice none 0 0, .bool false, .slice none 0 0] := (E807.far q596 b795.lt (by simp)).trans b795
  have b813 : Bx v807 q660 t666 #[.bool x668, .slice A669 m670 c671] := (E807.far q660 b796.lt (by simp)).trans b796
  have b814 : Bx v807 q684 t782 #[.bool x784, .slice A785 m786 c787] := (E807.far q684 b797.lt (by simp)).trans b797
  have f817 := (f800.mono E807.mono)
  have f821 := (f804.mono E807.mono)
  have e825 : g807 3 = (.bool false) := E807.facts 3 (by decide)
  refine then_normal ?_
  refine wp_cond_false e825 ?_
  refine wp_skip ?_
  refine then_normal ?_
  refine wp_seq ?_
  have HB : w.heap.size ≤ v807.heap.size := T808.size
  refine wp_plan_seq [.val (.cz n), .val (.cz dd), .val (.pair (.cz (rn n dd)) (.cz (rd n dd))), .put 2 86, .val (.is (.int .i64 0)), .val (.is (.int .i64 0))] [2] [q596] w.heap.size (by kernel_rfl) (by kernel_rfl) ⟨p597, b812.lt, (by simp), trivial⟩ HB ?_ ?_
  · exact ⟨fun s v h => does_val rfl rfl (x_load_z ((h.same 8 rfl).trans p661) ((h.far q660 b813.lt (nin1 n665.symm)).trans b813)) (f817.mono h.mono),
      fun s v h => does_val rfl rfl (x_load_z ((h.same 9 rfl).trans p685) ((h.far q684 b814.lt (nin1 n689.symm)).trans b814)) (f821.mono h.mono),
      fun s v h => does_call rfl rfl (x_call2 Try.call44) (qmade_k ((h.dep 0 rfl).az (N := N) ln) ((h.dep 1 rfl).az (N := N) ldd) (by omega) (by omega) hd0),
      fun s v h => does_put_r rfl rfl ((h.same 2 rfl).trans p597) (pair_shape (num_cz _) (num_cz _) (h.dep 2 rfl)) (h.mono.ok _ _ b812.ok4) h602,
      fun s v h => does_val rfl rfl (x_assign) rfl,
      fun s v h => does_val rfl rfl (x_assign) rfl, trivial⟩
  intro g826 ts v826 hts E826
  simp only [fillL, Nat.reduceAdd, List.setIfInBounds_toArray, List.set_cons_zero, List.set_cons_succ] at hts
  subst hts
  have T827 : Below w.heap.size w v826 := T808.trans E826.below
  have l828 : q596 < v807.heap.size := b812.lt
  have l829 : q660 < v807.heap.size := b813.lt
  have l830 : q684 < v807.heap.size := b814.lt
  have f842 : ((.pair (.cz (rn n dd)) (.cz (rd n dd))) : Known).p v826 (g826 2) := E826.facts 2 (by decide)
  have e843 : g826 4 = (.int .i64 0) := E826.facts 4 (by decide)
  have e844 : g826 5 = (.int .i64 0) := E826.facts 5 (by decide)
  obtain ⟨t845, x847, A848, m849, c850, x851, A852, m853, c854, e855, b846⟩ := put_info4 (E826.facts 3 (by decide)) p597 (pair_shape (num_cz _) (num_cz _) f842)
  have f856 : ((.pair (.cz (rn n dd)) (.cz (rd n dd))) : Known).p v826 (.agg #[.bool x847, .slice A848 m849 c850, .bool x851, .slice A852 m853 c854]) := pair_at f842 e855.symm
  refine then_normal ?_
  refine wp_ret ?_
  exact bodyPost_ret (ret_rtt rfl p597 b846) rfl ⟨_, rfl, ⟨_, _, _, rfl, f856, e843, e844⟩, T827⟩

set_option maxHeartbeats 4000000 in
set_option maxRecDepth 8000 in
theorem qread_10 {w : World} {tx : ByteArray} {LA : Nat} {n dd : Int} {N : Nat} (hL : decide ((131072 : Int) < (tx.size : Int)) = false) (hpf : Lib.hasPrefix tx.data.toList [45] = true) (hg1 : 1 < LA) (hg2 : LA ≤ tx.size) (hg3 : LA = tx.size ∨ (LA < tx.size ∧ byteN tx LA < 48)) (hg4 : Hid (∀ j, 1 ≤ j → j < LA → GoodR tx 1 j)) (hn : ∀ (v : World) (y : Value), y = .string (tx.extract 0 LA) → Calls Try.prog 74 #[y] v (Ret (.cz n) v)) (hd0 : dd ≠ 0) (ln : (digs n.natAbs).length ≤ N) (ldd : (digs dd.natAbs).length ≤ N) (hN : N ≤ 1000000) (hz1 : ((byteN tx 1 : Int) == 48) = false) (hlt : LA = tx.size) (hd1 : dd = 1)  : Calls Try.prog 40 #[.string tx] w (Ret (.tup3 (.pair (.cz (rn n dd)) (.cz (rd n dd))) (.is (.int .i64 0)) (.is (.int .i64 0))) w) := by
  have _u := ldd
  have _u2 := hd0
  have hsz : tx.size ≤ 131072 := by have := of_decide_eq_false hL; omega
  have hlt2 : decide ((LA : Int) < (tx.size : Int)) = false := decide_eq_false (by omega)
  have T0 : Below w.heap.size w w := Below.refl _ _
  go_enter Try.func40, Try.ntmps40
  refine wp_seq ?_
  have HB : w.heap.size ≤ w.heap.size := T0.size
  refine wp_plan_seq [.new 4 (some (29, #[.bool false, .slice none 0 0, .bool false, .slice none 0 0])), .val (.is (.int .i64 0)), .val (.is (.int .i64 0))] [] [] w.heap.size (by kernel_rfl) (by kernel_rfl) trivial HB ?_ ?_
  · exact ⟨fun s v h => does_new rfl rfl x_alloc_r (okr _ _ _ _ _ _ _ _) rfl (.inr rfl),
      fun s v h => does_val rfl rfl (x_assign) rfl,
      fun s v h => does_val rfl rfl (x_assign) rfl, trivial⟩
  intro g857 ts v857 hts E857
  simp only [fillL, Nat.reduceAdd, List.setIfInBounds_toArray, List.set_cons_zero, List.set_cons_succ] at hts
  subst hts
  have T858 : Below w.heap.size w v857 := T0.trans E857.below
  obtain ⟨q861, p862, l863, o864, b865⟩ : ∃ q, g857 0 = .pointer (some ⟨q, 0, none⟩) ∧ w.heap.size ≤ q ∧ OkB v857 q 4 ∧ Bx v857 q 29 #[.bool false, .slice none 0 0, .bool false, .slice none 0 0] := E857.facts 0 (by decide)
  have h867 : w.heap.size ≤ q861 := Nat.le_trans HB l863
  refine then_normal ?_
  refine wp_seq ?_
  refine wp_seq ?_
  have HB : w.heap.size ≤ v857.heap.size := T858.size
  refine wp_plan_seq [.val (.is (.string tx)), .val (.is (.int .i64 (tx.size : Int))), .val (.is (.bool false))] [] [] w.heap.size (by kernel_rfl) (by kernel_rfl) trivial HB ?_ ?_
  · exact ⟨fun s v h => does_val rfl rfl (x_move) (h.same 0 rfl),
      fun s v h => does_val rfl rfl (x_len_str (h.dep 0 rfl)) rfl,
      fun s v h => does_val rfl rfl (x_gtr (h.dep 1 rfl) rfl) (congrArg Value.bool hL), trivial⟩
  intro g868 ts v868 hts E868
  simp only [fillL, Nat.reduceAdd, List.setIfInBounds_toArray, List.set_cons_zero, List.set_cons_succ] at hts
  subst hts
  have T869 : Below w.heap.size w v868 := T858.trans E868.below
  have l870 : q861 < v857.heap.size := b865.lt
  have b871 : Bx v868 q861 29 #[.bool false, .slice none 0 0, .bool false, .slice none 0 0] := (E868.far q861 b865.lt (by simp)).trans b865
  have e875 : g868 2 = (.bool false) := E868.facts 2 (by decide)
  refine then_normal ?_
  refine wp_cond_false e875 ?_
  refine wp_skip ?_
  refine then_normal ?_
  refine wp_seq ?_
  have HB : w.heap.size ≤ v868.heap.size := T869.size
  refine wp_plan_seq [.val (.is (.int .i64 0))] [] [] w.heap.size (by kernel_rfl) (by kernel_rfl) trivial HB ?_ ?_
  · exact ⟨fun s v h => does_val rfl rfl (x_assign) rfl, trivial⟩
  intro g876 ts v876 hts E876
  simp only [fillL, List.setIfInBounds_toArray, List.set_cons_zero, List.set_cons_succ] at hts
  subst hts
  have T877 : Below w.heap.size w v876 := T869.trans E876.below
  have l878 : q861 < v868.heap.size := b871.lt
  have b879 : Bx v876 q861 29 #[.bool false, .slice none 0 0, .bool false, .slice none 0 0] := (E876.far q861 b871.lt (by simp)).trans b871
  refine then_normal ?_
  refine wp_seq ?_
  refine wp_seq ?_
  have HB : w.heap.size ≤ v876.heap.size := T877.size
  refine wp_plan_seq [.val (.is (.string tx)), .val (.is (.bool true))] [] [] w.heap.size (by kernel_rfl) (by kernel_rfl) trivial HB ?_ ?_
  · exact ⟨fun s v h => does_val rfl rfl (x_move) (h.same 0 rfl),
      fun s v h => does_call rfl rfl (x_call2 Try.call72) (prefix_k (h.dep 0 rfl) rfl hpf), trivial⟩
  intro g882 ts v882 hts E882
  simp only [fillL, Nat.reduceAdd, List.setIfInBounds_toArray, List.set_cons_zero, List.set_cons_succ] at hts
  subst hts
  have T883 : Below w.heap.size w v882 := T877.trans E882.below
  have l884 : q861 < v876.heap.size := b879.lt
  have b885 : Bx v882 q861 29 #[.bool false, .slice none 0 0, .bool false, .slice none 0 0] := (E882.far q861 b879.lt (by simp)).trans b879
  have e888 : g882 1 = (.bool true) := E882.facts 1 (by decide)
  refine then_normal ?_
  refine wp_cond_true e888 ?_
  have HB : w.heap.size ≤ v882.heap.size := T883.size
  refine wp_plan_seq [.val (.is (.int .i64 1))] [] [] w.heap.size (by kernel_rfl) (by kernel_rfl) trivial HB ?_ ?_
  · exact ⟨fun s v h => does_val rfl rfl (x_assign) rfl, trivial⟩
  intro g889 ts v889 hts E889
  simp only [fillL, List.setIfInBounds_toArray, List.set_cons_zero, List.set_cons_succ] at hts
  subst hts
  have T890 : Below w.heap.size w v889 := T883.trans E889.below
  have l891 : q861 < v882.heap.size := b885.lt
  have b892 : Bx v889 q861 29 #[.bool false, .slice none 0 0, .bool false, .slice none 0 0] := (E889.far q861 b885.lt (by simp)).trans b885
  have e894 : g889 0 = (.int .i64 1) := E889.facts 0 (by decide)
  refine then_normal ?_
  refine wp_seq ?_
  have HB : w.heap.size ≤ v889.heap.size := T890.size
  refine wp_plan_seq [.val (.is (.string tx)), .val (.is (.int .i64 1)), .val (.tup2 (.is (.int .i64 (LA : Int))) (.is (.bool true))), .val (.tup2 (.is (.int .i64 (LA : Int))) (.is (.bool true))), .val (.is (.int .i64 (LA : Int))), .val (.is (.bool true)), .val (.is (.int .i64 (LA : Int))), .val (.is (.bool true))] [] [] w.heap.size (by kernel_rfl) (by kernel_rfl) trivial HB ?_ ?_
  · exact ⟨fun s v h => does_val rfl rfl (x_move) (h.same 0 rfl),
      fun s v h => does_val rfl rfl (x_move) ((h.same 5 rfl).trans e894),
      fun s v h => does_call rfl rfl (x_call2 Try.call73) (digits_k (fr := 1) (h.dep 0 rfl) (h.dep 1 rfl) hg1 hg2 (by omega) hg3 hg4),
      fun s v h => does_val rfl rfl (x_move) (h.dep 2 rfl),
      fun s v h => by obtain ⟨r0, r1, e, f0, f1⟩ := tup2_at (h.dep 3 rfl); exact does_val rfl rfl (x_ext e rfl) f0,
      fun s v h => by obtain ⟨r0, r1, e, f0, f1⟩ := tup2_at (h.dep 3 rfl); exact does_val rfl rfl (x_ext e rfl) f1,
      fun s v h => does_val rfl rfl (x_assign) (h.dep 4 rfl),
      fun s v h => does_val rfl rfl (x_assign) (h.dep 5 rfl), trivial⟩
  intro g895 ts v895 hts E895
  simp only [fillL, Nat.reduceAdd, List.setIfInBounds_toArray, List.set_cons_zero, List.set_cons_succ] at hts
  subst hts
  have T896 : Below w.heap.size w v895 := T890.trans E895.below
  have l897 : q861 < v889.heap.size := b892.lt
  have b898 : Bx v895 q861 29 #[.bool false, .slice none 0 0, .bool false, .slice none 0 0] := (E895.far q861 b892.lt (by simp)).trans b892
  have e904 : g895 6 = (.int .i64 (LA : Int)) := E895.facts 6 (by decide)
  have e905 : g895 7 = (.bool true) := E895.facts 7 (by decide)
  refine then_normal ?_
  refine wp_seq ?_
  refine wp_seq ?_
  have HB : w.heap.size ≤ v895.heap.size := T896.size
  refine wp_plan_seq [.val (.is (.bool true)), .val (.is (.bool false)), .val (.is (.bool false)), .val (.is (.int .i64 1)), .val (.is (.bool true)), .val (.is (.bool true)), .val (.is (.string tx)), .val (.is (.int .u8 (byteN tx 1 : Int))), .val (.is (.bool false)), .val (.is (.bool false)), .val (.is (.bool false))] [] [] w.heap.size (by kernel_rfl) (by kernel_rfl) trivial HB ?_ ?_
  · exact ⟨fun s v h => does_val rfl rfl (x_move) ((h.same 7 rfl).trans e905),
      fun s v h => does_val rfl rfl (x_not (h.dep 0 rfl)) rfl,
      fun s v h => does_val rfl rfl (x_move) (h.dep 1 rfl),
      fun s v h => does_val rfl (wanted_by (b := false) (want := false) rfl rfl (h.dep 2 rfl)) (x_move) ((h.same 5 rfl).trans e894),
      fun s v h => does_val rfl (wanted_by (b := false) (want := false) rfl rfl (h.dep 2 rfl)) (x_eql_int (h.dep 3 rfl) rfl) rfl,
      fun s v h => does_val rfl (wanted_by (b := false) (want := false) rfl rfl (h.dep 2 rfl)) (x_move) (h.dep 4 rfl),
      fun s v h => does_val rfl (wanted_by (b := true) (want := true) rfl rfl (h.dep 5 rfl)) (x_move) (h.same 0 rfl),
      fun s v h => does_val rfl (wanted_by (b := true) (want := true) rfl rfl (h.dep 5 rfl)) (x_index_str (h.dep 6 rfl) (k := 1) rfl (by omega)) rfl,
      fun s v h => does_val rfl (wanted_by (b := true) (want := true) rfl rfl (h.dep 5 rfl)) (x_eql_u8 (h.dep 7 rfl) rfl) (congrArg Value.bool hz1),
      fun s v h => does_val rfl (wanted_by (b := false) (want := false) rfl rfl (h.dep 2 rfl)) (x_pick (h.dep 5 rfl)) (h.dep 8 rfl),
      fun s v h => does_val rfl rfl (x_pick (h.dep 2 rfl)) (h.dep 9 rfl), trivial⟩
  intro g906 ts v906 hts E906
  simp only [fillL, Nat.reduceAdd, List.setIfInBounds_toArray, List.set_cons_zero, List.set_cons_succ] at hts
  subst hts
  have T907 : Below w.heap.size w v906 := T896.trans E906.below
  have l908 : q861 < v895.heap.size := b898.lt
  have b909 : Bx v906 q861 29 #[.bool false, .slice none 0 0, .bool false, .slice none 0 0] := (E906.far q861 b898.lt (by simp)).trans b898
  have e921 : g906 10 = (.bool false) := E906.facts 10 (by decide)
  refine then_normal ?_
  refine wp_cond_false e921 ?_
  refine wp_skip ?_
  refine then_normal ?_
  refine wp_seq ?_
  have HB : w.heap.size ≤ v906.heap.size := T907.size
  refine wp_plan_seq [.val (.is (.string tx)), .val (.is (.int .i64 (LA : Int))), .val (.is (.string (tx.extract 0 LA))), .val (.cz n), .new 2 none, .put 8 40] [] [] w.heap.size (by kernel_rfl) (by kernel_rfl) trivial HB ?_ ?_
  · exact ⟨fun s v h => does_val rfl rfl (x_move) (h.same 0 rfl),
      fun s v h => does_val rfl rfl (x_move) ((h.same 6 rfl).trans e904),
      fun s v h => does_val rfl rfl (x_cut_to (h.dep 0 rfl) (k := LA) (h.dep 1 rfl) (by omega)) rfl,
      fun s v h => does_call rfl rfl (x_call1 Try.call74) (hn _ _ (h.dep 2 rfl)),
      fun s v h => does_new rfl rfl x_alloc_z (okz _ _ _ _) rfl (.inl rfl),
      fun s v h => by obtain ⟨q, e1, e2, e3⟩ := new_at (h.dep 4 rfl); exact does_put_z rfl rfl e1 (h.dep 3 rfl).shape e3 (Nat.le_trans HB e2), trivial⟩
  intro g922 ts v922 hts E922
  simp only [fillL, Nat.reduceAdd, List.setIfInBounds_toArray, List.set_cons_zero, List.set_cons_succ] at hts
  subst hts
  have T923 : Below w.heap.size w v922 := T907.trans E922.below
  have l924 : q861 < v906.heap.size := b909.lt
  have b925 : Bx v922 q861 29 #[.bool false, .slice none 0 0, .bool false, .slice none 0 0] := (E922.far q861 b909.lt (by simp)).trans b909
  have f930 : Cz v922 (g922 3) n := E922.facts 3 (by decide)
  obtain ⟨q931, p932, l933, o934⟩ : ∃ q, g922 4 = .pointer (some ⟨q, 0, none⟩) ∧ v906.heap.size ≤ q ∧ OkB v922 q 2 := E922.facts 4 (by decide)
  have h935 : w.heap.size ≤ q931 := Nat.le_trans HB l933
  have n936 : q861 ≠ q931 := by omega
  obtain ⟨t937, x939, A940, m941, c942, e943, b938⟩ := put_info (E922.facts 5 (by decide)) p932 f930.shape
  have f944 : Cz v922 (.agg #[.bool x939, .slice A940 m941 c942]) n := f930.at e943.symm
  refine then_normal ?_
  refine wp_seq ?_
  have HB : w.heap.size ≤ v922.heap.size := T923.size
  refine wp_plan_seq [.val (.cz 1), .new 2 none, .put 9 41] [] [] w.heap.size (by kernel_rfl) (by kernel_rfl) trivial HB ?_ ?_
  · exact ⟨fun s v h => does_call rfl rfl (x_call1 Try.call52) (of_k rfl (by decide) (by decide)),
      fun s v h => does_new rfl rfl x_alloc_z (okz _ _ _ _) rfl (.inl rfl),
      fun s v h => by obtain ⟨q, e1, e2, e3⟩ := new_at (h.dep 1 rfl); exact does_put_z rfl rfl e1 (h.dep 0 rfl).shape e3 (Nat.le_trans HB e2), trivial⟩
  intro g945 ts v945 hts E945
  simp only [fillL, Nat.reduceAdd, List.setIfInBounds_toArray, List.set_cons_zero, List.set_cons_succ] at hts
  subst hts
  have T946 : Below w.heap.size w v945 := T923.trans E945.below
  have l947 : q861 < v922.heap.size := b925.lt
  have l948 : q931 < v922.heap.size := b938.lt
  have b949 : Bx v945 q861 29 #[.bool false, .slice none 0 0, .bool false, .slice none 0 0] := (E945.far q861 b925.lt (by simp)).trans b925
  have b950 : Bx v945 q931 t937 #[.bool x939, .slice A940 m941 c942] := (E945.far q931 b938.lt (by simp)).trans b938
  have f953 := (f944.mono E945.mono)
  have f954 : Cz v945 (g945 0) 1 := E945.facts 0 (by decide)
  obtain ⟨q955, p956, l957, o958⟩ : ∃ q, g945 1 = .pointer (some ⟨q, 0, none⟩) ∧ v922.heap.size ≤ q ∧ OkB v945 q 2 := E945.facts 1 (by decide)
  have h959 : w.heap.size ≤ q955 := Nat.le_trans HB l957
  have n960 : q861 ≠ q955 := by omega
  obtain ⟨t962, x964, A965, m966, c967, e968, b963⟩ := put_info (E945.facts 2 (by decide)) p956 f954.shape
  have f969 : Cz v945 (.agg #[.bool x964, .slice A965 m966 c967]) 1 := f954.at e968.symm
  refine then_normal ?_
  refine wp_seq ?_
  refine wp_seq ?_
  have HB : w.heap.size ≤ v945.heap.size := T946.size
  refine wp_plan_seq [.val (.is (.int .i64 (LA : Int))), .val (.is (.string tx)), .val (.is (.int .i64 (tx.size : Int))), .val (.is (.bool false)), .val (.is (.bool false)), .val (.is undef), .val (.is undef), .val (.is undef), .val (.is undef), .val (.is (.bool false))] [] [] w.heap.size (by kernel_rfl) (by kernel_rfl) trivial HB ?_ ?_
  · exact ⟨fun s v h => does_val rfl rfl (x_move) ((h.same 6 rfl).trans e904),
      fun s v h => does_val rfl rfl (x_move) (h.same 0 rfl),
      fun s v h => does_val rfl rfl (x_len_str (h.dep 1 rfl)) rfl,
      fun s v h => does_val rfl rfl (x_lss (h.dep 0 rfl) (h.dep 2 rfl)) (congrArg Value.bool hlt2),
      fun s v h => does_val rfl rfl (x_move) (h.dep 3 rfl),
      fun s v h => does_skip rfl (wanted_by (b := false) (want := true) rfl rfl (h.dep 4 rfl)) rfl,
      fun s v h => does_skip rfl (wanted_by (b := false) (want := true) rfl rfl (h.dep 4 rfl)) rfl,
      fun s v h => does_skip rfl (wanted_by (b := false) (want := true) rfl rfl (h.dep 4 rfl)) rfl,
      fun s v h => does_skip rfl (wanted_by (b := false) (want := true) rfl rfl (h.dep 4 rfl)) rfl,
      fun s v h => does_val rfl rfl (x_pick (h.dep 4 rfl)) rfl, trivial⟩
  intro g970 ts v970 hts E970
  simp only [fillL, Nat.reduceAdd, List.setIfInBounds_toArray, List.set_cons_zero, List.set_cons_succ] at hts
  subst hts
  have T971 : Below w.heap.size w v970 := T946.trans E970.below
  have l972 : q861 < v945.heap.size := b949.lt
  have l973 : q931 < v945.heap.size := b950.lt
  have l974 : q955 < v945.heap.size := b963.lt
  have b975 : Bx v970 q861 29 #[.bool false, .slice none 0 0, .bool false, .slice none 0 0] := (E970.far q861 b949.lt (by simp)).trans b949
  have b976 : Bx v970 q931 t937 #[.bool x939, .slice A940 m941 c942] := (E970.far q931 b950.lt (by simp)).trans b950
  have b977 : Bx v970 q955 t962 #[.bool x964, .slice A965 m966 c967] := (E970.far q955 b963.lt (by simp)).trans b963
  have f980 := (f953.mono E970.mono)
  have f982 := (f969.mono E970.mono)
  have e992 : g970 9 = (.bool false) := E970.facts 9 (by decide)
  refine then_normal ?_
  refine wp_cond_false e992 ?_
  refine wp_skip ?_
  refine then_normal ?_
  refine wp_seq ?_
  refine wp_seq ?_
  have HB : w.heap.size ≤ v970.heap.size := T971.size
  refine wp_plan_seq [.val (.is (.int .i64 (LA : Int))), .val (.is (.string tx)), .val (.is (.int .i64 (tx.size : Int))), .val (.is (.bool false))] [] [] w.heap.size (by kernel_rfl) (by kernel_rfl) trivial HB ?_ ?_
  · exact ⟨fun s v h => does_val rfl rfl (x_move) ((h.same 6 rfl).trans e904),
      fun s v h => does_val rfl rfl (x_move) (h.same 0 rfl),
      fun s v h => does_val rfl rfl (x_len_str (h.dep 1 rfl)) rfl,
      fun s v h => does_val rfl rfl (x_lss (h.dep 0 rfl) (h.dep 2 rfl)) (congrArg Value.bool hlt2), trivial⟩
  intro g993 ts v993 hts E993
  simp only [fillL, Nat.reduceAdd, List.setIfInBounds_toArray, List.set_cons_zero, List.set_cons_succ] at hts
  subst hts
  have T994 : Below w.heap.size w v993 := T971.trans E993.below
  have l995 : q861 < v970.heap.size := b975.lt
  have l996 : q931 < v970.heap.size := b976.lt
  have l997 : q955 < v970.heap.size := b977.lt
  have b998 : Bx v993 q861 29 #[.bool false, .slice none 0 0, .bool false, .slice none 0 0] := (E993.far q861 b975.lt (by simp)).trans b975
  have b999 : Bx v993 q931 t937 #[.bool x939, .slice A940 m941 c942] := (E993.far q931 b976.lt (by simp)).trans b976
  have b1000 : Bx v993 q955 t962 #[.bool x964, .slice A965 m966 c967] := (E993.far q955 b977.lt (by simp)).trans b977
  have f1003 := (f980.mono E993.mono)
  have f1005 := (f982.mono E993.mono)
  have e1009 : g993 3 = (.bool false) := E993.facts 3 (by decide)
  refine then_normal ?_
  refine wp_cond_false e1009 ?_
  refine wp_skip ?_
  refine then_normal ?_
  refine wp_seq ?_
  have HB : w.heap.size ≤ v993.heap.size := T994.size
  refine wp_plan_seq [.val (.cz n), .val (.cz 1), .val (.pair (.cz (rn n 1)) (.cz (rd n 1))), .put 2 86, .val (.is (.int .i64 0)), .val (.is (.int .i64 0))] [2] [q861] w.heap.size (by kernel_rfl) (by kernel_rfl) ⟨p862, b998.lt, (by simp), trivial⟩ HB ?_ ?_
  · exact ⟨fun s v h => does_val rfl rfl (x_load_z ((h.same 8 rfl).trans p932) ((h.far q931 b999.lt (nin1 n936.symm)).trans b999)) (f1003.mono h.mono),
      fun s v h => does_val rfl rfl (x_load_z ((h.same 9 rfl).trans p956) ((h.far q955 b1000.lt (nin1 n960.symm)).trans b1000)) (f1005.mono h.mono),
      fun s v h => does_call rfl rfl (x_call2 Try.call44) (qmade_k ((h.dep 0 rfl).az (N := N) ln) ((h.dep 1 rfl).az (N := 1) (show (digs (Int.natAbs 1)).length ≤ 1 from digs_len_le (by decide))) (by omega) (by omega) (by decide)),
      fun s v h => does_put_r rfl rfl ((h.same 2 rfl).trans p862) (pair_shape (num_cz _) (num_cz _) (h.dep 2 rfl)) (h.mono.ok _ _ b998.ok4) h867,
      fun s v h => does_val rfl rfl (x_assign) rfl,
      fun s v h => does_val rfl rfl (x_assign) rfl, trivial⟩
  intro g1010 ts v1010 hts E1010
  simp only [fillL, Nat.reduceAdd, List.setIfInBounds_toArray, List.set_cons_zero, List.set_cons_succ] at hts
  subst hts
  have T1011 : Below w.heap.size w v1010 := T994.trans E1010.below
  have l1012 : q861 < v993.heap.size := b998.lt
  have l1013 : q931 < v993.heap.size := b999.lt
  have l1014 : q955 < v993.heap.size := b1000.lt
  have f1024 : ((.pair (.cz (rn n 1)) (.cz (rd n 1))) : Known).p v1010 (g1010 2) := E1010.facts 2 (by decide)
  have e1025 : g1010 4 = (.int .i64 0) := E1010.facts 4 (by decide)
  have e1026 : g1010 5 = (.int .i64 0) := E1010.facts 5 (by decide)
  obtain ⟨t1027, x1029, A1030, m1031, c1032, x1033, A1034, m1035, c1036, e1037, b1028⟩ := put_info4 (E1010.facts 3 (by decide)) p862 (pair_shape (num_cz _) (num_cz _) f1024)
  have f1038 : ((.pair (.cz (rn n 1)) (.cz (rd n 1))) : Known).p v1010 (.agg #[.bool x1029, .slice A1030 m1031 c1032, .bool x1033, .slice A1034 m1035 c1036]) := pair_at f1024 e1037.symm
  refine then_normal ?_
  refine wp_ret ?_
  exact bodyPost_ret (ret_rtt rfl p862 b1028) rfl ⟨_, rfl, ⟨_, _, _, rfl, (by have := f1038; rw [← hd1] at this; exact this), e1025, e1026⟩, T1011⟩

set_option maxHeartbeats 4000000 in
set_option maxRecDepth 8000 in
theorem qread_11 {w : World} {tx : ByteArray} {LA : Nat} {n dd : Int} {N : Nat} (hL : decide ((131072 : Int) < (tx.size : Int)) = false) (hpf : Lib.hasPrefix tx.data.toList [45] = true) (hg1 : 1 < LA) (hg2 : LA ≤ tx.size) (hg3 : LA = tx.size ∨ (LA < tx.size ∧ byteN tx LA < 48)) (hg4 : Hid (∀ j, 1 ≤ j → j < LA → GoodR tx 1 j)) (hn : ∀ (v : World) (y : Value), y = .string (tx.extract 0 LA) → Calls Try.prog 74 #[y] v (Ret (.cz n) v)) (hd0 : dd ≠ 0) (ln : (digs n.natAbs).length ≤ N) (ldd : (digs dd.natAbs).length ≤ N) (hN : N ≤ 1000000) (hz1 : ((byteN tx 1 : Int) == 48) = false) (hlt : LA < tx.size) (hsl : ((byteN tx LA : Int) == 47) = true) (hk1 : LA + 1 < tx.size) (hk4 : Hid (∀ j, LA + 1 ≤ j → j < tx.size → GoodR tx (LA + 1) j)) (hz2 : ((byteN tx (LA + 1) : Int) == 48) = false) (hd : ∀ (v : World) (y : Value), y = .string (tx.extract (LA + 1) tx.size) → Calls Try.prog 74 #[y] v (Ret (.cz dd) v))  : Calls Try.prog 40 #[.string tx] w (Ret (.tup3 (.pair (.cz (rn n dd)) (.cz (rd n dd))) (.is (.int .i64 0)) (.is (.int .i64 0))) w) := by
  have hsz : tx.size ≤ 131072 := by have := of_decide_eq_false hL; omega
  have hlt2 : decide ((LA : Int) < (tx.size : Int)) = true := decide_eq_true (by omega)
  have hss : decide ((tx.size : Int) < (tx.size : Int)) = false := decide_eq_false (by omega)
  have T0 : Below w.heap.size w w := Below.refl _ _
  go_enter Try.func40, Try.ntmps40
  refine wp_seq ?_
  have HB : w.heap.size ≤ w.heap.size := T0.size
  refine wp_plan_seq [.new 4 (some (29, #[.bool false, .slice none 0 0, .bool false, .slice none 0 0])), .val (.is (.int .i64 0)), .val (.is (.int .i64 0))] [] [] w.heap.size (by kernel_rfl) (by kernel_rfl) trivial HB ?_ ?_
  · exact ⟨fun s v h => does_new rfl rfl x_alloc_r (okr _ _ _ _ _ _ _ _) rfl (.inr rfl),
      fun s v h => does_val rfl rfl (x_assign) rfl,
      fun s v h => does_val rfl rfl (x_assign) rfl, trivial⟩
  intro g1039 ts v1039 hts E1039
  simp only [fillL, Nat.reduceAdd, List.setIfInBounds_toArray, List.set_cons_zero, List.set_cons_succ] at hts
  subst hts
  have T1040 : Below w.heap.size w v1039 := T0.trans E1039.below
  obtain ⟨q1043, p1044, l1045, o1046, b1047⟩ : ∃ q, g1039 0 = .pointer (some ⟨q, 0, none⟩) ∧ w.heap.size ≤ q ∧ OkB v1039 q 4 ∧ Bx v1039 q 29 #[.bool false, .slice none 0 0, .bool false, .slice none 0 0] := E1039.facts 0 (by decide)
  have h1049 : w.heap.size ≤ q1043 := Nat.le_trans HB l1045
  refine then_normal ?_
  refine wp_seq ?_
  refine wp_seq ?_
  have HB : w.heap.size ≤ v1039.heap.size := T1040.size
  refine wp_plan_seq [.val (.is (.string tx)), .val (.is (.int .i64 (tx.size : Int))), .val (.is (.bool false))] [] [] w.heap.size (by kernel_rfl) (by kernel_rfl) trivial HB ?_ ?_
  · exact ⟨fun s v h => does_val rfl rfl (x_move) (h.same 0 rfl),
      fun s v h => does_val rfl rfl (x_len_str (h.dep 0 rfl)) rfl,
      fun s v h => does_val rfl rfl (x_gtr (h.dep 1 rfl) rfl) (congrArg Value.bool hL), trivial⟩
  intro g1050 ts v1050 hts E1050
  simp only [fillL, Nat.reduceAdd, List.setIfInBounds_toArray, List.set_cons_zero, List.set_cons_succ] at hts
  subst hts
  have T1051 : Below w.heap.size w v1050 := T1040.trans E1050.below
  have l1052 : q1043 < v1039.heap.size := b1047.lt
  have b1053 : Bx v1050 q1043 29 #[.bool false, .slice none 0 0, .bool false, .slice none 0 0] := (E1050.far q1043 b1047.lt (by simp)).trans b1047
  have e1057 : g1050 2 = (.bool false) := E1050.facts 2 (by decide)
  refine then_normal ?_
  refine wp_cond_false e1057 ?_
  refine wp_skip ?_
  refine then_normal ?_
  refine wp_seq ?_
  have HB : w.heap.size ≤ v1050.heap.size := T1051.size
  refine wp_plan_seq [.val (.is (.int .i64 0))] [] [] w.heap.size (by kernel_rfl) (by kernel_rfl) trivial HB ?_ ?_
  · exact ⟨fun s v h => does_val rfl rfl (x_assign) rfl, trivial⟩
  intro g1058 ts v1058 hts E1058
  simp only [fillL, List.setIfInBounds_toArray, List.set_cons_zero, List.set_cons_succ] at hts
  subst hts
  have T1059 : Below w.heap.size w v1058 := T1051.trans E1058.below
  have l1060 : q1043 < v1050.heap.size := b1053.lt
  have b1061 : Bx v1058 q1043 29 #[.bool false, .slice none 0 0, .bool false, .slice none 0 0] := (E1058.far q1043 b1053.lt (by simp)).trans b1053
  refine then_normal ?_
  refine wp_seq ?_
  refine wp_seq ?_
  have HB : w.heap.size ≤ v1058.heap.size := T1059.size
  refine wp_plan_seq [.val (.is (.string tx)), .val (.is (.bool true))] [] [] w.heap.size (by kernel_rfl) (by kernel_rfl) trivial HB ?_ ?_
  · exact ⟨fun s v h => does_val rfl rfl (x_move) (h.same 0 rfl),
      fun s v h => does_call rfl rfl (x_call2 Try.call72) (prefix_k (h.dep 0 rfl) rfl hpf), trivial⟩
  intro g1064 ts v1064 hts E1064
  simp only [fillL, Nat.reduceAdd, List.setIfInBounds_toArray, List.set_cons_zero, List.set_cons_succ] at hts
  subst hts
  have T1065 : Below w.heap.size w v1064 := T1059.trans E1064.below
  have l1066 : q1043 < v1058.heap.size := b1061.lt
  have b1067 : Bx v1064 q1043 29 #[.bool false, .slice none 0 0, .bool false, .slice none 0 0] := (E1064.far q1043 b1061.lt (by simp)).trans b1061
  have e1070 : g1064 1 = (.bool true) := E1064.facts 1 (by decide)
  refine then_normal ?_
  refine wp_cond_true e1070 ?_
  have HB : w.heap.size ≤ v1064.heap.size := T1065.size
  refine wp_plan_seq [.val (.is (.int .i64 1))] [] [] w.heap.size (by kernel_rfl) (by kernel_rfl) trivial HB ?_ ?_
  · exact ⟨fun s v h => does_val rfl rfl (x_assign) rfl, trivial⟩
  intro g1071 ts v1071 hts E1071
  simp only [fillL, List.setIfInBounds_toArray, List.set_cons_zero, List.set_cons_succ] at hts
  subst hts
  have T1072 : Below w.heap.size w v1071 := T1065.trans E1071.below
  have l1073 : q1043 < v1064.heap.size := b1067.lt
  have b1074 : Bx v1071 q1043 29 #[.bool false, .slice none 0 0, .bool false, .slice none 0 0] := (E1071.far q1043 b1067.lt (by simp)).trans b1067
  have e1076 : g1071 0 = (.int .i64 1) := E1071.facts 0 (by decide)
  refine then_normal ?_
  refine wp_seq ?_
  have HB : w.heap.size ≤ v1071.heap.size := T1072.size
  refine wp_plan_seq [.val (.is (.string tx)), .val (.is (.int .i64 1)), .val (.tup2 (.is (.int .i64 (LA : Int))) (.is (.bool true))), .val (.tup2 (.is (.int .i64 (LA : Int))) (.is (.bool true))), .val (.is (.int .i64 (LA : Int))), .val (.is (.bool true)), .val (.is (.int .i64 (LA : Int))), .val (.is (.bool true))] [] [] w.heap.size (by kernel_rfl) (by kernel_rfl) trivial HB ?_ ?_
  · exact ⟨fun s v h => does_val rfl rfl (x_move) (h.same 0 rfl),
      fun s v h => does_val rfl rfl (x_move) ((h.same 5 rfl).trans e1076),
      fun s v h => does_call rfl rfl (x_call2 Try.call73) (digits_k (fr := 1) (h.dep 0 rfl) (h.dep 1 rfl) hg1 hg2 (by omega) hg3 hg4),
      fun s v h => does_val rfl rfl (x_move) (h.dep 2 rfl),
      fun s v h => by obtain ⟨r0, r1, e, f0, f1⟩ := tup2_at (h.dep 3 rfl); exact does_val rfl rfl (x_ext e rfl) f0,
      fun s v h => by obtain ⟨r0, r1, e, f0, f1⟩ := tup2_at (h.dep 3 rfl); exact does_val rfl rfl (x_ext e rfl) f1,
      fun s v h => does_val rfl rfl (x_assign) (h.dep 4 rfl),
      fun s v h => does_val rfl rfl (x_assign) (h.dep 5 rfl), trivial⟩
  intro g1077 ts v1077 hts E1077
  simp only [fillL, Nat.reduceAdd, List.setIfInBounds_toArray, List.set_cons_zero, List.set_cons_succ] at hts
  subst hts
  have T1078 : Below w.heap.size w v1077 := T1072.trans E1077.below
  have l1079 : q1043 < v1071.heap.size := b1074.lt
  have b1080 : Bx v1077 q1043 29 #[.bool false, .slice none 0 0, .bool false, .slice none 0 0] := (E1077.far q1043 b1074.lt (by simp)).trans b1074
  have e1086 : g1077 6 = (.int .i64 (LA : Int)) := E1077.facts 6 (by decide)
  have e1087 : g1077 7 = (.bool true) := E1077.facts 7 (by decide)
  refine then_normal ?_
  refine wp_seq ?_
  refine wp_seq ?_
  have HB : w.heap.size ≤ v1077.heap.size := T1078.size
  refine wp_plan_seq [.val (.is (.bool true)), .val (.is (.bool false)), .val (.is (.bool false)), .val (.is (.int .i64 1)), .val (.is (.bool true)), .val (.is (.bool true)), .val (.is (.string tx)), .val (.is (.int .u8 (byteN tx 1 : Int))), .val (.is (.bool false)), .val (.is (.bool false)), .val (.is (.bool false))] [] [] w.heap.size (by kernel_rfl) (by kernel_rfl) trivial HB ?_ ?_
  · exact ⟨fun s v h => does_val rfl rfl (x_move) ((h.same 7 rfl).trans e1087),
      fun s v h => does_val rfl rfl (x_not (h.dep 0 rfl)) rfl,
      fun s v h => does_val rfl rfl (x_move) (h.dep 1 rfl),
      fun s v h => does_val rfl (wanted_by (b := false) (want := false) rfl rfl (h.dep 2 rfl)) (x_move) ((h.same 5 rfl).trans e1076),
      fun s v h => does_val rfl (wanted_by (b := false) (want := false) rfl rfl (h.dep 2 rfl)) (x_eql_int (h.dep 3 rfl) rfl) rfl,
      fun s v h => does_val rfl (wanted_by (b := false) (want := false) rfl rfl (h.dep 2 rfl)) (x_move) (h.dep 4 rfl),
      fun s v h => does_val rfl (wanted_by (b := true) (want := true) rfl rfl (h.dep 5 rfl)) (x_move) (h.same 0 rfl),
      fun s v h => does_val rfl (wanted_by (b := true) (want := true) rfl rfl (h.dep 5 rfl)) (x_index_str (h.dep 6 rfl) (k := 1) rfl (by omega)) rfl,
      fun s v h => does_val rfl (wanted_by (b := true) (want := true) rfl rfl (h.dep 5 rfl)) (x_eql_u8 (h.dep 7 rfl) rfl) (congrArg Value.bool hz1),
      fun s v h => does_val rfl (wanted_by (b := false) (want := false) rfl rfl (h.dep 2 rfl)) (x_pick (h.dep 5 rfl)) (h.dep 8 rfl),
      fun s v h => does_val rfl rfl (x_pick (h.dep 2 rfl)) (h.dep 9 rfl), trivial⟩
  intro g1088 ts v1088 hts E1088
  simp only [fillL, Nat.reduceAdd, List.setIfInBounds_toArray, List.set_cons_zero, List.set_cons_succ] at hts
  subst hts
  have T1089 : Below w.heap.size w v1088 := T1078.trans E1088.below
  have l1090 : q1043 < v1077.heap.size := b1080.lt
  have b1091 : Bx v1088 q1043 29 #[.bool false, .slice none 0 0, .bool false, .slice none 0 0] := (E1088.far q1043 b1080.lt (by simp)).trans b1080
  have e1103 : g1088 10 = (.bool false) := E1088.facts 10 (by decide)
  refine then_normal ?_
  refine wp_cond_false e1103 ?_
  refine wp_skip ?_
  refine then_normal ?_
  refine wp_seq ?_
  have HB : w.heap.size ≤ v1088.heap.size := T1089.size
  refine wp_plan_seq [.val (.is (.string tx)), .val (.is (.int .i64 (LA : Int))), .val (.is (.string (tx.extract 0 LA))), .val (.cz n), .new 2 none, .put 8 40] [] [] w.heap.size (by kernel_rfl) (by kernel_rfl) trivial HB ?_ ?_
  · exact ⟨fun s v h => does_val rfl rfl (x_move) (h.same 0 rfl),
      fun s v h => does_val rfl rfl (x_move) ((h.same 6 rfl).trans e1086),
      fun s v h => does_val rfl rfl (x_cut_to (h.dep 0 rfl) (k := LA) (h.dep 1 rfl) (by omega)) rfl,
      fun s v h => does_call rfl rfl (x_call1 Try.call74) (hn _ _ (h.dep 2 rfl)),
      fun s v h => does_new rfl rfl x_alloc_z (okz _ _ _ _) rfl (.inl rfl),
      fun s v h => by obtain ⟨q, e1, e2, e3⟩ := new_at (h.dep 4 rfl); exact does_put_z rfl rfl e1 (h.dep 3 rfl).shape e3 (Nat.le_trans HB e2), trivial⟩
  intro g1104 ts v1104 hts E1104
  simp only [fillL, Nat.reduceAdd, List.setIfInBounds_toArray, List.set_cons_zero, List.set_cons_succ] at hts
  subst hts
  have T1105 : Below w.heap.size w v1104 := T1089.trans E1104.below
  have l1106 : q1043 < v1088.heap.size := b1091.lt
  have b1107 : Bx v1104 q1043 29 #[.bool false, .slice none 0 0, .bool false, .slice none 0 0] := (E1104.far q1043 b1091.lt (by simp)).trans b1091
  have f1112 : Cz v1104 (g1104 3) n := E1104.facts 3 (by decide)
  obtain ⟨q1113, p1114, l1115, o1116⟩ : ∃ q, g1104 4 = .pointer (some ⟨q, 0, none⟩) ∧ v1088.heap.size ≤ q ∧ OkB v1104 q 2 := E1104.facts 4 (by decide)
  have h1117 : w.heap.size ≤ q1113 := Nat.le_trans HB l1115
  have n1118 : q1043 ≠ q1113 := by omega
  obtain ⟨t1119, x1121, A1122, m1123, c1124, e1125, b1120⟩ := put_info (E1104.facts 5 (by decide)) p1114 f1112.shape
  have f1126 : Cz v1104 (.agg #[.bool x1121, .slice A1122 m1123 c1124]) n := f1112.at e1125.symm
  refine then_normal ?_
  refine wp_seq ?_
  have HB : w.heap.size ≤ v1104.heap.size := T1105.size
  refine wp_plan_seq [.val (.cz 1), .new 2 none, .put 9 41] [] [] w.heap.size (by kernel_rfl) (by kernel_rfl) trivial HB ?_ ?_
  · exact ⟨fun s v h => does_call rfl rfl (x_call1 Try.call52) (of_k rfl (by decide) (by decide)),
      fun s v h => does_new rfl rfl x_alloc_z (okz _ _ _ _) rfl (.inl rfl),
      fun s v h => by obtain ⟨q, e1, e2, e3⟩ := new_at (h.dep 1 rfl); exact does_put_z rfl rfl e1 (h.dep 0 rfl).shape e3 (Nat.le_trans HB e2), trivial⟩
  intro g1127 ts v1127 hts E1127
  simp only [fillL, Nat.reduceAdd, List.setIfInBounds_toArray, List.set_cons_zero, List.set_cons_succ] at hts
  subst hts
  have T1128 : Below w.heap.size w v1127 := T1105.trans E1127.below
  have l1129 : q1043 < v1104.heap.size := b1107.lt
  have l1130 : q1113 < v1104.heap.size := b1120.lt
  have b1131 : Bx v1127 q1043 29 #[.bool false, .slice none 0 0, .bool false, .slice none 0 0] := (E1127.far q1043 b1107.lt (by simp)).trans b1107
  have b1132 : Bx v1127 q1113 t1119 #[.bool x1121, .slice A1122 m1123 c1124] := (E1127.far q1113 b1120.lt (by simp)).trans b1120
  have f1135 := (f1126.mono E1127.mono)
  have f1136 : Cz v1127 (g1127 0) 1 := E1127.facts 0 (by decide)
  obtain ⟨q1137, p1138, l1139, o1140⟩ : ∃ q, g1127 1 = .pointer (some ⟨q, 0, none⟩) ∧ v1104.heap.size ≤ q ∧ OkB v1127 q 2 := E1127.facts 1 (by decide)
  have h1141 : w.heap.size ≤ q1137 := Nat.le_trans HB l1139
  have n1142 : q1043 ≠ q1137 := by omega
  have n1143 : q1113 ≠ q1137 := by omega
  obtain ⟨t1144, x1146, A1147, m1148, c1149, e1150, b1145⟩ := put_info (E1127.facts 2 (by decide)) p1138 f1136.shape
  refine then_normal ?_
  refine wp_seq ?_
  refine wp_seq ?_
  have HB : w.heap.size ≤ v1127.heap.size := T1128.size
  refine wp_plan_seq [.val (.is (.int .i64 (LA : Int))), .val (.is (.string tx)), .val (.is (.int .i64 (tx.size : Int))), .val (.is (.bool true)), .val (.is (.bool true)), .val (.is (.string tx)), .val (.is (.int .i64 (LA : Int))), .val (.is (.int .u8 (byteN tx LA : Int))), .val (.is (.bool true)), .val (.is (.bool true))] [] [] w.heap.size (by kernel_rfl) (by kernel_rfl) trivial HB ?_ ?_
  · exact ⟨fun s v h => does_val rfl rfl (x_move) ((h.same 6 rfl).trans e1086),
      fun s v h => does_val rfl rfl (x_move) (h.same 0 rfl),
      fun s v h => does_val rfl rfl (x_len_str (h.dep 1 rfl)) rfl,
      fun s v h => does_val rfl rfl (x_lss (h.dep 0 rfl) (h.dep 2 rfl)) (congrArg Value.bool hlt2),
      fun s v h => does_val rfl rfl (x_move) (h.dep 3 rfl),
      fun s v h => does_val rfl (wanted_by (b := true) (want := true) rfl rfl (h.dep 4 rfl)) (x_move) (h.same 0 rfl),
      fun s v h => does_val rfl (wanted_by (b := true) (want := true) rfl rfl (h.dep 4 rfl)) (x_move) ((h.same 6 rfl).trans e1086),
      fun s v h => does_val rfl (wanted_by (b := true) (want := true) rfl rfl (h.dep 4 rfl)) (x_index_str (h.dep 5 rfl) (k := LA) (h.dep 6 rfl) (by omega)) rfl,
      fun s v h => does_val rfl (wanted_by (b := true) (want := true) rfl rfl (h.dep 4 rfl)) (x_eql_u8 (h.dep 7 rfl) rfl) (congrArg Value.bool hsl),
      fun s v h => does_val rfl rfl (x_pick (h.dep 4 rfl)) (h.dep 8 rfl), trivial⟩
  intro g1152 ts v1152 hts E1152
  simp only [fillL, Nat.reduceAdd, List.setIfInBounds_toArray, List.set_cons_zero, List.set_cons_succ] at hts
  subst hts
  have T1153 : Below w.heap.size w v1152 := T1128.trans E1152.below
  have l1154 : q1043 < v1127.heap.size := b1131.lt
  have l1155 : q1113 < v1127.heap.size := b1132.lt
  have l1156 : q1137 < v1127.heap.size := b1145.lt
  have b1157 : Bx v1152 q1043 29 #[.bool false, .slice none 0 0, .bool false, .slice none 0 0] := (E1152.far q1043 b1131.lt (by simp)).trans b1131
  have b1158 : Bx v1152 q1113 t1119 #[.bool x1121, .slice A1122 m1123 c1124] := (E1152.far q1113 b1132.lt (by simp)).trans b1132
  have b1159 : Bx v1152 q1137 t1144 #[.bool x1146, .slice A1147 m1148 c1149] := (E1152.far q1137 b1145.lt (by simp)).trans b1145
  have f1162 := (f1135.mono E1152.mono)
  have e1174 : g1152 9 = (.bool true) := E1152.facts 9 (by decide)
  refine then_normal ?_
  refine wp_cond_true e1174 ?_
  refine wp_seq ?_
  have HB : w.heap.size ≤ v1152.heap.size := T1153.size
  refine wp_plan_seq [.val (.is (.string tx)), .val (.is (.int .i64 (LA : Int))), .val (.is (.int .i64 ((LA + 1 : Nat) : Int))), .val (.tup2 (.is (.int .i64 (tx.size : Int))) (.is (.bool true))), .val (.tup2 (.is (.int .i64 (tx.size : Int))) (.is (.bool true))), .val (.is (.int .i64 (tx.size : Int))), .val (.is (.bool true)), .val (.is (.int .i64 (tx.size : Int))), .val (.is (.bool true))] [] [] w.heap.size (by kernel_rfl) (by kernel_rfl) trivial HB ?_ ?_
  · exact ⟨fun s v h => does_val rfl rfl (x_move) (h.same 0 rfl),
      fun s v h => does_val rfl rfl (x_move) ((h.same 6 rfl).trans e1086),
      fun s v h => does_val rfl rfl (x_add (h.dep 1 rfl) rfl (by rw [IntKind.wrap_i64]; omega)) (congrArg (Value.int .i64) (by omega)),
      fun s v h => does_call rfl rfl (x_call2 Try.call73) (digits_k (fr := LA + 1) (h.dep 0 rfl) (h.dep 2 rfl) hk1 (Nat.le_refl _) (by omega) (.inl rfl) hk4),
      fun s v h => does_val rfl rfl (x_move) (h.dep 3 rfl),
      fun s v h => by obtain ⟨r0, r1, e, f0, f1⟩ := tup2_at (h.dep 4 rfl); exact does_val rfl rfl (x_ext e rfl) f0,
      fun s v h => by obtain ⟨r0, r1, e, f0, f1⟩ := tup2_at (h.dep 4 rfl); exact does_val rfl rfl (x_ext e rfl) f1,
      fun s v h => does_val rfl rfl (x_assign) (h.dep 5 rfl),
      fun s v h => does_val rfl rfl (x_assign) (h.dep 6 rfl), trivial⟩
  intro g1175 ts v1175 hts E1175
  simp only [fillL, Nat.reduceAdd, List.setIfInBounds_toArray, List.set_cons_zero, List.set_cons_succ] at hts
  subst hts
  have T1176 : Below w.heap.size w v1175 := T1153.trans E1175.below
  have l1177 : q1043 < v1152.heap.size := b1157.lt
  have l1178 : q1113 < v1152.heap.size := b1158.lt
  have l1179 : q1137 < v1152.heap.size := b1159.lt
  have b1180 : Bx v1175 q1043 29 #[.bool false, .slice none 0 0, .bool false, .slice none 0 0] := (E1175.far q1043 b1157.lt (by simp)).trans b1157
  have b1181 : Bx v1175 q1113 t1119 #[.bool x1121, .slice A1122 m1123 c1124] := (E1175.far q1113 b1158.lt (by simp)).trans b1158
  have b1182 : Bx v1175 q1137 t1144 #[.bool x1146, .slice A1147 m1148 c1149] := (E1175.far q1137 b1159.lt (by simp)).trans b1159
  have f1185 := (f1162.mono E1175.mono)
  have e1193 : g1175 7 = (.int .i64 (tx.size : Int)) := E1175.facts 7 (by decide)
  have e1194 : g1175 8 = (.bool true) := E1175.facts 8 (by decide)
  refine then_normal ?_
  refine wp_seq ?_
  refine wp_seq ?_
  have HB : w.heap.size ≤ v1175.heap.size := T1176.size
  refine wp_plan_seq [.val (.is (.bool true)), .val (.is (.bool false)), .val (.is (.bool false)), .val (.is (.string tx)), .val (.is (.int .i64 (LA : Int))), .val (.is (.int .i64 ((LA + 1 : Nat) : Int))), .val (.is (.int .u8 (byteN tx (LA + 1) : Int))), .val (.is (.bool false)), .val (.is (.bool false))] [] [] w.heap.size (by kernel_rfl) (by kernel_rfl) trivial HB ?_ ?_
  · exact ⟨fun s v h => does_val rfl rfl (x_move) ((h.same 11 rfl).trans e1194),
      fun s v h => does_val rfl rfl (x_not (h.dep 0 rfl)) rfl,
      fun s v h => does_val rfl rfl (x_move) (h.dep 1 rfl),
      fun s v h => does_val rfl (wanted_by (b := false) (want := false) rfl rfl (h.dep 2 rfl)) (x_move) (h.same 0 rfl),
      fun s v h => does_val rfl (wanted_by (b := false) (want := false) rfl rfl (h.dep 2 rfl)) (x_move) ((h.same 6 rfl).trans e1086),
      fun s v h => does_val rfl (wanted_by (b := false) (want := false) rfl rfl (h.dep 2 rfl)) (x_add (h.dep 4 rfl) rfl (by rw [IntKind.wrap_i64]; omega)) (congrArg (Value.int .i64) (by omega)),
      fun s v h => does_val rfl (wanted_by (b := false) (want := false) rfl rfl (h.dep 2 rfl)) (x_index_str (h.dep 3 rfl) (k := (LA + 1)) (h.dep 5 rfl) (by omega)) rfl,
      fun s v h => does_val rfl (wanted_by (b := false) (want := false) rfl rfl (h.dep 2 rfl)) (x_eql_u8 (h.dep 6 rfl) rfl) (congrArg Value.bool hz2),
      fun s v h => does_val rfl rfl (x_pick (h.dep 2 rfl)) (h.dep 7 rfl), trivial⟩
  intro g1195 ts v1195 hts E1195
  simp only [fillL, Nat.reduceAdd, List.setIfInBounds_toArray, List.set_cons_zero, List.set_cons_succ] at hts
  subst hts
  have T1196 : Below w.heap.size w v1195 := T1176.trans E1195.below
  have l1197 : q1043 < v1175.heap.size := b1180.lt
  have l1198 : q1113 < v1175.heap.size := b1181.lt
  have l1199 : q1137 < v1175.heap.size := b1182.lt
  have b1200 : Bx v1195 q1043 29 #[.bool false, .slice none 0 0, .bool false, .slice none 0 0] := (E1195.far q1043 b1180.lt (by simp)).trans b1180
  have b1201 : Bx v1195 q1113 t1119 #[.bool x1121, .slice A1122 m1123 c1124] := (E1195.far q1113 b1181.lt (by simp)).trans b1181
  have b1202 : Bx v1195 q1137 t1144 #[.bool x1146, .slice A1147 m1148 c1149] := (E1195.far q1137 b1182.lt (by simp)).trans b1182
  have f1205 := (f1185.mono E1195.mono)
  have e1216 : g1195 8 = (.bool false) := E1195.facts 8 (by decide)
  refine then_normal ?_
  refine wp_cond_false e1216 ?_
  refine wp_skip ?_
  refine then_normal ?_
  refine wp_seq ?_
  have HB : w.heap.size ≤ v1195.heap.size := T1196.size
  refine wp_plan_seq [.val (.is (.string tx)), .val (.is (.int .i64 (LA : Int))), .val (.is (.int .i64 ((LA + 1 : Nat) : Int))), .val (.is (.int .i64 (tx.size : Int))), .val (.is (.string (tx.extract (LA + 1) tx.size))), .val (.cz dd), .put 9 76] [9] [q1137] w.heap.size (by kernel_rfl) (by kernel_rfl) ⟨p1138, b1202.lt, (by simp), trivial⟩ HB ?_ ?_
  · exact ⟨fun s v h => does_val rfl rfl (x_move) (h.same 0 rfl),
      fun s v h => does_val rfl rfl (x_move) ((h.same 6 rfl).trans e1086),
      fun s v h => does_val rfl rfl (x_add (h.dep 1 rfl) rfl (by rw [IntKind.wrap_i64]; omega)) (congrArg (Value.int .i64) (by omega)),
      fun s v h => does_val rfl rfl (x_move) ((h.same 10 rfl).trans e1193),
      fun s v h => does_val rfl rfl (x_cut_both (h.dep 0 rfl) (k := (LA + 1)) (l := tx.size) (h.dep 2 rfl) (h.dep 3 rfl) (by omega) (by omega)) rfl,
      fun s v h => does_call rfl rfl (x_call1 Try.call74) (hd _ _ (h.dep 4 rfl)),
      fun s v h => does_put_z rfl rfl ((h.same 9 rfl).trans p1138) (h.dep 5 rfl).shape (h.mono.ok _ _ b1202.ok2) h1141, trivial⟩
  intro g1217 ts v1217 hts E1217
  simp only [fillL, Nat.reduceAdd, List.setIfInBounds_toArray, List.set_cons_zero, List.set_cons_succ] at hts
  subst hts
  have T1218 : Below w.heap.size w v1217 := T1196.trans E1217.below
  have l1219 : q1043 < v1195.heap.size := b1200.lt
  have l1220 : q1113 < v1195.heap.size := b1201.lt
  have l1221 : q1137 < v1195.heap.size := b1202.lt
  have b1222 : Bx v1217 q1043 29 #[.bool false, .slice none 0 0, .bool false, .slice none 0 0] := (E1217.far q1043 b1200.lt (nin1 n1142)).trans b1200
  have b1223 : Bx v1217 q1113 t1119 #[.bool x1121, .slice A1122 m1123 c1124] := (E1217.far q1113 b1201.lt (nin1 n1143)).trans b1201
  have f1226 := (f1205.mono E1217.mono)
  have f1234 : Cz v1217 (g1217 5) dd := E1217.facts 5 (by decide)
  obtain ⟨t1235, x1237, A1238, m1239, c1240, e1241, b1236⟩ := put_info (E1217.facts 6 (by decide)) p1138 f1234.shape
  have f1242 : Cz v1217 (.agg #[.bool x1237, .slice A1238 m1239 c1240]) dd := f1234.at e1241.symm
  refine then_normal ?_
  have HB : w.heap.size ≤ v1217.heap.size := T1218.size
  refine wp_plan_seq [.val (.is (.int .i64 (tx.size : Int))), .val (.is (.int .i64 (tx.size : Int)))] [] [] w.heap.size (by kernel_rfl) (by kernel_rfl) trivial HB ?_ ?_
  · exact ⟨fun s v h => does_val rfl rfl (x_move) ((h.same 10 rfl).trans e1193),
      fun s v h => does_val rfl rfl (x_assign) (h.dep 0 rfl), trivial⟩
  intro g1243 ts v1243 hts E1243
  simp only [fillL, Nat.reduceAdd, List.setIfInBounds_toArray, List.set_cons_zero, List.set_cons_succ] at hts
  subst hts
  have T1244 : Below w.heap.size w v1243 := T1218.trans E1243.below
  have l1245 : q1043 < v1217.heap.size := b1222.lt
  have l1246 : q1113 < v1217.heap.size := b1223.lt
  have l1247 : q1137 < v1217.heap.size := b1236.lt
  have b1248 : Bx v1243 q1043 29 #[.bool false, .slice none 0 0, .bool false, .slice none 0 0] := (E1243.far q1043 b1222.lt (by simp)).trans b1222
  have b1249 : Bx v1243 q1113 t1119 #[.bool x1121, .slice A1122 m1123 c1124] := (E1243.far q1113 b1223.lt (by simp)).trans b1223
  have b1250 : Bx v1243 q1137 t1235 #[.bool x1237, .slice A1238 m1239 c1240] := (E1243.far q1137 b1236.lt (by simp)).trans b1236
  have f1253 := (f1226.mono E1243.mono)
  have f1257 := (f1242.mono E1243.mono)
  have e1259 : g1243 1 = (.int .i64 (tx.size : Int)) := E1243.facts 1 (by decide)
  refine then_normal ?_
  refine wp_seq ?_
  refine wp_seq ?_
  have HB : w.heap.size ≤ v1243.heap.size := T1244.size
  refine wp_plan_seq [.val (.is (.int .i64 (tx.size : Int))), .val (.is (.string tx)), .val (.is (.int .i64 (tx.size : Int))), .val (.is (.bool false))] [] [] w.heap.size (by kernel_rfl) (by kernel_rfl) trivial HB ?_ ?_
  · exact ⟨fun s v h => does_val rfl rfl (x_move) ((h.same 6 rfl).trans e1259),
      fun s v h => does_val rfl rfl (x_move) (h.same 0 rfl),
      fun s v h => does_val rfl rfl (x_len_str (h.dep 1 rfl)) rfl,
      fun s v h => does_val rfl rfl (x_lss (h.dep 0 rfl) (h.dep 2 rfl)) (congrArg Value.bool hss), trivial⟩
  intro g1260 ts v1260 hts E1260
  simp only [fillL, Nat.reduceAdd, List.setIfInBounds_toArray, List.set_cons_zero, List.set_cons_succ] at hts
  subst hts
  have T1261 : Below w.heap.size w v1260 := T1244.trans E1260.below
  have l1262 : q1043 < v1243.heap.size := b1248.lt
  have l1263 : q1113 < v1243.heap.size := b1249.lt
  have l1264 : q1137 < v1243.heap.size := b1250.lt
  have b1265 : Bx v1260 q1043 29 #[.bool false, .slice none 0 0, .bool false, .slice none 0 0] := (E1260.far q1043 b1248.lt (by simp)).trans b1248
  have b1266 : Bx v1260 q1113 t1119 #[.bool x1121, .slice A1122 m1123 c1124] := (E1260.far q1113 b1249.lt (by simp)).trans b1249
  have b1267 : Bx v1260 q1137 t1235 #[.bool x1237, .slice A1238 m1239 c1240] := (E1260.far q1137 b1250.lt (by simp)).trans b1250
  have f1270 := (f1253.mono E1260.mono)
  have f1274 := (f1257.mono E1260.mono)
  have e1278 : g1260 3 = (.bool false) := E1260.facts 3 (by decide)
  refine then_normal ?_
  refine wp_cond_false e1278 ?_
  refine wp_skip ?_
  refine then_normal ?_
  refine wp_seq ?_
  have HB : w.heap.size ≤ v1260.heap.size := T1261.size
  refine wp_plan_seq [.val (.cz n), .val (.cz dd), .val (.pair (.cz (rn n dd)) (.cz (rd n dd))), .put 2 86, .val (.is (.int .i64 0)), .val (.is (.int .i64 0))] [2] [q1043] w.heap.size (by kernel_rfl) (by kernel_rfl) ⟨p1044, b1265.lt, (by simp), trivial⟩ HB ?_ ?_
  · exact ⟨fun s v h => does_val rfl rfl (x_load_z ((h.same 8 rfl).trans p1114) ((h.far q1113 b1266.lt (nin1 n1118.symm)).trans b1266)) (f1270.mono h.mono),
      fun s v h => does_val rfl rfl (x_load_z ((h.same 9 rfl).trans p1138) ((h.far q1137 b1267.lt (nin1 n1142.symm)).trans b1267)) (f1274.mono h.mono),
      fun s v h => does_call rfl rfl (x_call2 Try.call44) (qmade_k ((h.dep 0 rfl).az (N := N) ln) ((h.dep 1 rfl).az (N := N) ldd) (by omega) (by omega) hd0),
      fun s v h => does_put_r rfl rfl ((h.same 2 rfl).trans p1044) (pair_shape (num_cz _) (num_cz _) (h.dep 2 rfl)) (h.mono.ok _ _ b1265.ok4) h1049,
      fun s v h => does_val rfl rfl (x_assign) rfl,
      fun s v h => does_val rfl rfl (x_assign) rfl, trivial⟩
  intro g1279 ts v1279 hts E1279
  simp only [fillL, Nat.reduceAdd, List.setIfInBounds_toArray, List.set_cons_zero, List.set_cons_succ] at hts
  subst hts
  have T1280 : Below w.heap.size w v1279 := T1261.trans E1279.below
  have l1281 : q1043 < v1260.heap.size := b1265.lt
  have l1282 : q1113 < v1260.heap.size := b1266.lt
  have l1283 : q1137 < v1260.heap.size := b1267.lt
  have f1295 : ((.pair (.cz (rn n dd)) (.cz (rd n dd))) : Known).p v1279 (g1279 2) := E1279.facts 2 (by decide)
  have e1296 : g1279 4 = (.int .i64 0) := E1279.facts 4 (by decide)
  have e1297 : g1279 5 = (.int .i64 0) := E1279.facts 5 (by decide)
  obtain ⟨t1298, x1300, A1301, m1302, c1303, x1304, A1305, m1306, c1307, e1308, b1299⟩ := put_info4 (E1279.facts 3 (by decide)) p1044 (pair_shape (num_cz _) (num_cz _) f1295)
  have f1309 : ((.pair (.cz (rn n dd)) (.cz (rd n dd))) : Known).p v1279 (.agg #[.bool x1300, .slice A1301 m1302 c1303, .bool x1304, .slice A1305 m1306 c1307]) := pair_at f1295 e1308.symm
  refine then_normal ?_
  refine wp_ret ?_
  exact bodyPost_ret (ret_rtt rfl p1044 b1299) rfl ⟨_, rfl, ⟨_, _, _, rfl, f1309, e1296, e1297⟩, T1280⟩

end Go.Proofs.Ytdmahjbjlppeaaa
