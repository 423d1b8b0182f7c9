/- ref02.Small -/
import Derived.Test.YtkidgeeedigkhaaYWord
import Derived.Test.YtkidgeeedigkhaaY2
namespace Go.Proofs.Ytkidgeeedigkhaa
open Go.RowKit

/-- A slice in its one form. -/
structure Cn (w : World) (x : Value) (M : Nat) : Prop where
  ex : ∃ A c, x = .slice A (digs M).length c ∧ Sl w A (digs M).length c (digs M)
theorem Cn.mono {v v' : World} {x : Value} {M : Nat} (h : Cn v x M) (hM : Mono v v') : Cn v' x M := by
  obtain ⟨A, c, e, hS⟩ := h
  exact ⟨A, c, e, hM.sl _ _ _ _ hS⟩
theorem Cn.at {w : World} {x y : Value} {M : Nat} (h : Cn w x M) (e : y = x) : Cn w y M := e ▸ h
def Known.cn (M : Nat) : Known := ⟨fun w x => Cn w x M, fun _ _ _ h hM => h.mono hM⟩
theorem rnorm_cn {w : World} {x : Value} {a N : Nat} (h : Nz N w x a) (hN : N ≤ 35184372088832) : Calls Try.prog 68 #[x] w (Ret (.cn a) w) := by
  obtain ⟨A, n, c, l, rfl, hS, rfl, hn⟩ := h
  refine (rnorm_calls w A n c l hS (by omega)).mono fun _ _ h => ?_
  obtain ⟨A, c, rfl, hO, hB⟩ := h
  exact ⟨_, rfl, ⟨⟨A, c, rfl, hO.sl⟩⟩, hB⟩

set_option maxHeartbeats 4000000 in
set_option maxRecDepth 8000 in
theorem small_nil {w : World} {A0 : Option Addr} {n0 c0 M0 : Nat} {na0 : Bool} {N0 : Nat} (hm0 : Nz N0 w (.slice A0 n0 c0) M0) (hN0 : N0 ≤ 35184372088830) (hna : na0 = false) (hd : digs M0 = []) (d1 : decide (((zof na0 M0) - (-9223372036854775808)).sign < 0) = false) (d2 : decide (0 < ((zof na0 M0) - 9223372036854775807).sign) = false)  : Calls Try.prog 67 #[.agg #[.bool na0, .slice A0 n0 c0]] w (Ret (.tup2 (.is (.int .i64 0)) (.is (.bool true))) w) := by
  have ha0 : Az N0 w (.agg #[.bool na0, .slice A0 n0 c0]) (zof na0 M0) := Az.of_nz hm0
  have la0 := ha0.len
  have T0 : Below w.heap.size w w := Below.refl _ _
  go_enter Try.func67, Try.ntmps67
  refine wp_seq ?_
  have HB : w.heap.size ≤ w.heap.size := T0.size
  refine wp_plan_seq [.new 2 (some (24, #[.bool na0, .slice A0 n0 c0])), .val (.is (.int .i64 0)), .val (.is (.bool false))] [] [] w.heap.size (by kernel_rfl) (by kernel_rfl) trivial HB ?_ ?_
  · exact ⟨fun s v h => does_new rfl rfl (x_box_z (h.same 0 rfl)) (okz _ _ _ _) rfl (.inr rfl),
      fun s v h => does_val rfl rfl (x_assign) rfl,
      fun s v h => does_val rfl rfl (x_assign) rfl, trivial⟩
  intro g1 ts v1 hts E1
  simp only [fillL, Nat.reduceAdd, List.setIfInBounds_toArray, List.set_cons_zero, List.set_cons_succ] at hts
  subst hts
  have T2 : Below w.heap.size w v1 := T0.trans E1.below
  have f3 := ha0.mono E1.mono
  have f4 := hm0.mono E1.mono
  obtain ⟨q7, p8, l9, o10, b11⟩ : ∃ q, g1 0 = .pointer (some ⟨q, 0, none⟩) ∧ w.heap.size ≤ q ∧ OkB v1 q 2 ∧ Bx v1 q 24 #[.bool na0, .slice A0 n0 c0] := E1.facts 0 (by decide)
  have h12 : w.heap.size ≤ q7 := Nat.le_trans HB l9
  refine then_normal ?_
  refine wp_seq ?_
  refine wp_seq ?_
  have HB : w.heap.size ≤ v1.heap.size := T2.size
  refine wp_plan_any [.val (.az N0 (zof na0 M0)), .val (.cz (-9223372036854775808)), .val (.is (.int .i64 ((zof na0 M0) - (-9223372036854775808)).sign)), .val (.is (.bool false)), .val (.is (.bool false)), .val (.az N0 (zof na0 M0)), .val (.cz 9223372036854775807), .val (.is (.int .i64 ((zof na0 M0) - 9223372036854775807).sign)), .val (.is (.bool false)), .val (.is (.bool false))] [] [] w.heap.size (by kernel_rfl) (by kernel_rfl) (by kernel_rfl) trivial HB ?_ ?_
  · exact ⟨fun s v h => does_val rfl rfl (x_load_z ((h.same 1 rfl).trans p8) ((h.far q7 b11.lt (by simp)).trans b11)) (f3.mono ((Mono.drew _).trans h.mono)),
      fun s v h => does_call rfl rfl (x_call1 Try.call72) (r2of_k rfl (by decide) (by decide)),
      fun s v h => does_call rfl rfl (x_call2 Try.call93) (r2cmp_k (h.dep 0 rfl) ((h.dep 1 rfl).az (N := 2) (show (digs (Int.natAbs (-9223372036854775808))).length ≤ 2 from digs_len_le (by decide))) (by omega) (by omega)),
      fun s v h => does_val rfl rfl (x_lss (h.dep 2 rfl) rfl) (congrArg Value.bool d1),
      fun s v h => does_val rfl rfl (x_move) (h.dep 3 rfl),
      fun s v h => does_val rfl (wanted_by (b := false) (want := false) rfl rfl (h.dep 4 rfl)) (x_load_z ((h.same 1 rfl).trans p8) ((h.far q7 b11.lt (by simp)).trans b11)) (f3.mono ((Mono.drew _).trans h.mono)),
      fun s v h => does_call rfl (wanted_by (b := false) (want := false) rfl rfl (h.dep 4 rfl)) (x_call1 Try.call72) (r2of_k rfl (by decide) (by decide)),
      fun s v h => does_call rfl (wanted_by (b := false) (want := false) rfl rfl (h.dep 4 rfl)) (x_call2 Try.call93) (r2cmp_k (h.dep 5 rfl) ((h.dep 6 rfl).az (N := 2) (show (digs (Int.natAbs 9223372036854775807)).length ≤ 2 from digs_len_le (by decide))) (by omega) (by omega)),
      fun s v h => does_val rfl (wanted_by (b := false) (want := false) rfl rfl (h.dep 4 rfl)) (x_gtr (h.dep 7 rfl) rfl) (congrArg Value.bool d2),
      fun s v h => does_val rfl rfl (x_pick (h.dep 4 rfl)) (h.dep 8 rfl), trivial⟩
  intro g13 ts v13 hts E13
  simp only [fillL, Nat.reduceAdd, List.setIfInBounds_toArray, List.set_cons_zero, List.set_cons_succ] at hts
  subst hts
  have T14 : Below w.heap.size w v13 := (below_toDrew T2).trans E13.below
  have l15 : q7 < v1.heap.size := b11.lt
  have b16 : Bx v13 q7 24 #[.bool na0, .slice A0 n0 c0] := (E13.far q7 b11.lt (by simp)).trans b11
  have f17 := f3.mono ((Mono.drew _).trans E13.mono)
  have f18 := f4.mono ((Mono.drew _).trans E13.mono)
  have f19 : Az N0 v13 (g13 0) (zof na0 M0) := E13.facts 0 (by decide)
  have f20 : Cz v13 (g13 1) (-9223372036854775808) := E13.facts 1 (by decide)
  have f24 : Az N0 v13 (g13 5) (zof na0 M0) := E13.facts 5 (by decide)
  have f25 : Cz v13 (g13 6) 9223372036854775807 := E13.facts 6 (by decide)
  have e28 : g13 9 = (.bool false) := E13.facts 9 (by decide)
  refine then_normal ?_
  refine wp_cond_false e28 ?_
  refine wp_skip ?_
  refine then_normal ?_
  refine wp_seq ?_
  have HB : w.heap.size ≤ v13.heap.size := T14.size
  refine wp_plan_seq [.val (.is (.pointer (some ⟨q7, 1, none⟩))), .val (.nz N0 M0), .val (.cn M0), .val (.cn M0)] [] [] w.heap.size (by kernel_rfl) (by kernel_rfl) trivial HB ?_ ?_
  · exact ⟨fun s v h => does_val rfl rfl (x_fld (by decide) ((h.same 1 rfl).trans p8)) rfl,
      fun s v h => does_val rfl rfl (x_load_s (h.dep 0 rfl) ((h.far q7 b16.lt (by simp)).trans b16)) (f18.mono h.mono),
      fun s v h => does_call rfl rfl (x_call1 Try.call68) (rnorm_cn (h.dep 1 rfl) (by omega)),
      fun s v h => does_val rfl rfl (x_assign) (h.dep 2 rfl), trivial⟩
  intro g29 ts v29 hts E29
  simp only [fillL, Nat.reduceAdd, List.setIfInBounds_toArray, List.set_cons_zero, List.set_cons_succ] at hts
  subst hts
  have T30 : Below w.heap.size w v29 := T14.trans E29.below
  have l31 : q7 < v13.heap.size := b16.lt
  have b32 : Bx v29 q7 24 #[.bool na0, .slice A0 n0 c0] := (E29.far q7 b16.lt (by simp)).trans b16
  have f33 := f17.mono E29.mono
  have f34 := f18.mono E29.mono
  have f35 := f19.mono E29.mono
  have f36 := f20.mono E29.mono
  have f37 := f24.mono E29.mono
  have f38 := f25.mono E29.mono
  have f39 : Nz N0 v29 (g29 1) M0 := E29.facts 1 (by decide)
  have f40 : Cn v29 (g29 2) M0 := E29.facts 2 (by decide)
  have f41 : Cn v29 (g29 3) M0 := E29.facts 3 (by decide)
  refine then_normal ?_
  refine wp_seq ?_
  rw [p8]
  obtain ⟨A4, c4, e4, hS4⟩ := f41
  rw [e4]
  have hb0 : v29.cell? ⟨q7, 0, none⟩ = some (.bool na0) := cell_of_row _ _ 0 _ _ (0, 0) b32
  have hT := T30
  clear b32 f33 f34 f35 f36 f37 f38 f39 f40
  subst hna
  rw [hd]
  clear hS4 e4
  go_wp2
  refine wp_loop_rounds 1 ?_
  rw [rounds_succ]
  go_wp2
  exact bodyPost_ret (results_tmp2 (t := 2) (u := 3) rfl _ _ _) rfl ⟨_, rfl, ⟨_, _, rfl, rfl, rfl⟩, hT⟩

set_option maxHeartbeats 4000000 in
set_option maxRecDepth 8000 in
theorem small_one {w : World} {A0 : Option Addr} {n0 c0 M0 : Nat} {na0 : Bool} {N0 : Nat} (hm0 : Nz N0 w (.slice A0 n0 c0) M0) (hN0 : N0 ≤ 35184372088830) (hna : na0 = false) (x : Int) (hd : digs M0 = [x]) (d1 : decide (((zof na0 M0) - (-9223372036854775808)).sign < 0) = false) (d2 : decide (0 < ((zof na0 M0) - 9223372036854775807).sign) = false)  : Calls Try.prog 67 #[.agg #[.bool na0, .slice A0 n0 c0]] w (Ret (.tup2 (.is (.int .i64 x)) (.is (.bool true))) w) := by
  have ha0 : Az N0 w (.agg #[.bool na0, .slice A0 n0 c0]) (zof na0 M0) := Az.of_nz hm0
  have la0 := ha0.len
  have hl := digs_lim M0
  rw [hd] at hl
  have hx := hl.head
  have T0 : Below w.heap.size w w := Below.refl _ _
  go_enter Try.func67, Try.ntmps67
  refine wp_seq ?_
  have HB : w.heap.size ≤ w.heap.size := T0.size
  refine wp_plan_seq [.new 2 (some (24, #[.bool na0, .slice A0 n0 c0])), .val (.is (.int .i64 0)), .val (.is (.bool false))] [] [] w.heap.size (by kernel_rfl) (by kernel_rfl) trivial HB ?_ ?_
  · exact ⟨fun s v h => does_new rfl rfl (x_box_z (h.same 0 rfl)) (okz _ _ _ _) rfl (.inr rfl),
      fun s v h => does_val rfl rfl (x_assign) rfl,
      fun s v h => does_val rfl rfl (x_assign) rfl, trivial⟩
  intro g42 ts v42 hts E42
  simp only [fillL, Nat.reduceAdd, List.setIfInBounds_toArray, List.set_cons_zero, List.set_cons_succ] at hts
  subst hts
  have T43 : Below w.heap.size w v42 := T0.trans E42.below
  have f44 := ha0.mono E42.mono
  have f45 := hm0.mono E42.mono
  obtain ⟨q48, p49, l50, o51, b52⟩ : ∃ q, g42 0 = .pointer (some ⟨q, 0, none⟩) ∧ w.heap.size ≤ q ∧ OkB v42 q 2 ∧ Bx v42 q 24 #[.bool na0, .slice A0 n0 c0] := E42.facts 0 (by decide)
  have h53 : w.heap.size ≤ q48 := Nat.le_trans HB l50
  refine then_normal ?_
  refine wp_seq ?_
  refine wp_seq ?_
  have HB : w.heap.size ≤ v42.heap.size := T43.size
  refine wp_plan_any [.val (.az N0 (zof na0 M0)), .val (.cz (-9223372036854775808)), .val (.is (.int .i64 ((zof na0 M0) - (-9223372036854775808)).sign)), .val (.is (.bool false)), .val (.is (.bool false)), .val (.az N0 (zof na0 M0)), .val (.cz 9223372036854775807), .val (.is (.int .i64 ((zof na0 M0) - 9223372036854775807).sign)), .val (.is (.bool false)), .val (.is (.bool false))] [] [] w.heap.size (by kernel_rfl) (by kernel_rfl) (by kernel_rfl) trivial HB ?_ ?_
  · exact ⟨fun s v h => does_val rfl rfl (x_load_z ((h.same 1 rfl).trans p49) ((h.far q48 b52.lt (by simp)).trans b52)) (f44.mono ((Mono.drew _).trans h.mono)),
      fun s v h => does_call rfl rfl (x_call1 Try.call72) (r2of_k rfl (by decide) (by decide)),
      fun s v h => does_call rfl rfl (x_call2 Try.call93) (r2cmp_k (h.dep 0 rfl) ((h.dep 1 rfl).az (N := 2) (show (digs (Int.natAbs (-9223372036854775808))).length ≤ 2 from digs_len_le (by decide))) (by omega) (by omega)),
      fun s v h => does_val rfl rfl (x_lss (h.dep 2 rfl) rfl) (congrArg Value.bool d1),
      fun s v h => does_val rfl rfl (x_move) (h.dep 3 rfl),
      fun s v h => does_val rfl (wanted_by (b := false) (want := false) rfl rfl (h.dep 4 rfl)) (x_load_z ((h.same 1 rfl).trans p49) ((h.far q48 b52.lt (by simp)).trans b52)) (f44.mono ((Mono.drew _).trans h.mono)),
      fun s v h => does_call rfl (wanted_by (b := false) (want := false) rfl rfl (h.dep 4 rfl)) (x_call1 Try.call72) (r2of_k rfl (by decide) (by decide)),
      fun s v h => does_call rfl (wanted_by (b := false) (want := false) rfl rfl (h.dep 4 rfl)) (x_call2 Try.call93) (r2cmp_k (h.dep 5 rfl) ((h.dep 6 rfl).az (N := 2) (show (digs (Int.natAbs 9223372036854775807)).length ≤ 2 from digs_len_le (by decide))) (by omega) (by omega)),
      fun s v h => does_val rfl (wanted_by (b := false) (want := false) rfl rfl (h.dep 4 rfl)) (x_gtr (h.dep 7 rfl) rfl) (congrArg Value.bool d2),
      fun s v h => does_val rfl rfl (x_pick (h.dep 4 rfl)) (h.dep 8 rfl), trivial⟩
  intro g54 ts v54 hts E54
  simp only [fillL, Nat.reduceAdd, List.setIfInBounds_toArray, List.set_cons_zero, List.set_cons_succ] at hts
  subst hts
  have T55 : Below w.heap.size w v54 := (below_toDrew T43).trans E54.below
  have l56 : q48 < v42.heap.size := b52.lt
  have b57 : Bx v54 q48 24 #[.bool na0, .slice A0 n0 c0] := (E54.far q48 b52.lt (by simp)).trans b52
  have f58 := f44.mono ((Mono.drew _).trans E54.mono)
  have f59 := f45.mono ((Mono.drew _).trans E54.mono)
  have f60 : Az N0 v54 (g54 0) (zof na0 M0) := E54.facts 0 (by decide)
  have f61 : Cz v54 (g54 1) (-9223372036854775808) := E54.facts 1 (by decide)
  have f65 : Az N0 v54 (g54 5) (zof na0 M0) := E54.facts 5 (by decide)
  have f66 : Cz v54 (g54 6) 9223372036854775807 := E54.facts 6 (by decide)
  have e69 : g54 9 = (.bool false) := E54.facts 9 (by decide)
  refine then_normal ?_
  refine wp_cond_false e69 ?_
  refine wp_skip ?_
  refine then_normal ?_
  refine wp_seq ?_
  have HB : w.heap.size ≤ v54.heap.size := T55.size
  refine wp_plan_seq [.val (.is (.pointer (some ⟨q48, 1, none⟩))), .val (.nz N0 M0), .val (.cn M0), .val (.cn M0)] [] [] w.heap.size (by kernel_rfl) (by kernel_rfl) trivial HB ?_ ?_
  · exact ⟨fun s v h => does_val rfl rfl (x_fld (by decide) ((h.same 1 rfl).trans p49)) rfl,
      fun s v h => does_val rfl rfl (x_load_s (h.dep 0 rfl) ((h.far q48 b57.lt (by simp)).trans b57)) (f59.mono h.mono),
      fun s v h => does_call rfl rfl (x_call1 Try.call68) (rnorm_cn (h.dep 1 rfl) (by omega)),
      fun s v h => does_val rfl rfl (x_assign) (h.dep 2 rfl), trivial⟩
  intro g70 ts v70 hts E70
  simp only [fillL, Nat.reduceAdd, List.setIfInBounds_toArray, List.set_cons_zero, List.set_cons_succ] at hts
  subst hts
  have T71 : Below w.heap.size w v70 := T55.trans E70.below
  have l72 : q48 < v54.heap.size := b57.lt
  have b73 : Bx v70 q48 24 #[.bool na0, .slice A0 n0 c0] := (E70.far q48 b57.lt (by simp)).trans b57
  have f74 := f58.mono E70.mono
  have f75 := f59.mono E70.mono
  have f76 := f60.mono E70.mono
  have f77 := f61.mono E70.mono
  have f78 := f65.mono E70.mono
  have f79 := f66.mono E70.mono
  have f80 : Nz N0 v70 (g70 1) M0 := E70.facts 1 (by decide)
  have f81 : Cn v70 (g70 2) M0 := E70.facts 2 (by decide)
  have f82 : Cn v70 (g70 3) M0 := E70.facts 3 (by decide)
  refine then_normal ?_
  refine wp_seq ?_
  rw [p49]
  obtain ⟨A4, c4, e4, hS4⟩ := f82
  rw [e4]
  have hb0 : v70.cell? ⟨q48, 0, none⟩ = some (.bool na0) := cell_of_row _ _ 0 _ _ (0, 0) b73
  have hT := T71
  clear b73 f74 f75 f76 f77 f78 f79 f80 f81
  subst hna
  rw [hd] at hS4
  obtain ⟨b4, off4, rfl, hlt4, hc4⟩ := hS4.cells (by simp)
  have k0 := hc4 0 (by simp)
  rw [hd]
  simp only [List.getD_cons_zero, Nat.add_zero] at k0
  clear hS4 e4 hc4 hl
  go_wp2
  refine wp_loop_rounds 2 ?_
  rw [rounds_succ]
  go_wp2
  rw [rounds_succ]
  go_wp2
  exact bodyPost_ret (results_tmp2 (t := 2) (u := 3) rfl _ _ _) rfl ⟨_, rfl, ⟨_, _, rfl, rfl, rfl⟩, hT⟩

set_option maxHeartbeats 4000000 in
set_option maxRecDepth 8000 in
theorem small_two {w : World} {A0 : Option Addr} {n0 c0 M0 : Nat} {na0 : Bool} {N0 : Nat} (hm0 : Nz N0 w (.slice A0 n0 c0) M0) (hN0 : N0 ≤ 35184372088830) (hna : na0 = false) (x y : Int) (hy7 : y < 2147483648) (hd : digs M0 = [x, y]) (d1 : decide (((zof na0 M0) - (-9223372036854775808)).sign < 0) = false) (d2 : decide (0 < ((zof na0 M0) - 9223372036854775807).sign) = false)  : Calls Try.prog 67 #[.agg #[.bool na0, .slice A0 n0 c0]] w (Ret (.tup2 (.is (.int .i64 (y * 4294967296 + x))) (.is (.bool true))) w) := by
  have ha0 : Az N0 w (.agg #[.bool na0, .slice A0 n0 c0]) (zof na0 M0) := Az.of_nz hm0
  have la0 := ha0.len
  have hl := digs_lim M0
  rw [hd] at hl
  have hx := hl.head
  have hy := hl.tail.head
  have T0 : Below w.heap.size w w := Below.refl _ _
  go_enter Try.func67, Try.ntmps67
  refine wp_seq ?_
  have HB : w.heap.size ≤ w.heap.size := T0.size
  refine wp_plan_seq [.new 2 (some (24, #[.bool na0, .slice A0 n0 c0])), .val (.is (.int .i64 0)), .val (.is (.bool false))] [] [] w.heap.size (by kernel_rfl) (by kernel_rfl) trivial HB ?_ ?_
  · exact ⟨fun s v h => does_new rfl rfl (x_box_z (h.same 0 rfl)) (okz _ _ _ _) rfl (.inr rfl),
      fun s v h => does_val rfl rfl (x_assign) rfl,
      fun s v h => does_val rfl rfl (x_assign) rfl, trivial⟩
  intro g83 ts v83 hts E83
  simp only [fillL, Nat.reduceAdd, List.setIfInBounds_toArray, List.set_cons_zero, List.set_cons_succ] at hts
  subst hts
  have T84 : Below w.heap.size w v83 := T0.trans E83.below
  have f85 := ha0.mono E83.mono
  have f86 := hm0.mono E83.mono
  obtain ⟨q89, p90, l91, o92, b93⟩ : ∃ q, g83 0 = .pointer (some ⟨q, 0, none⟩) ∧ w.heap.size ≤ q ∧ OkB v83 q 2 ∧ Bx v83 q 24 #[.bool na0, .slice A0 n0 c0] := E83.facts 0 (by decide)
  have h94 : w.heap.size ≤ q89 := Nat.le_trans HB l91
  refine then_normal ?_
  refine wp_seq ?_
  refine wp_seq ?_
  have HB : w.heap.size ≤ v83.heap.size := T84.size
  refine wp_plan_any [.val (.az N0 (zof na0 M0)), .val (.cz (-9223372036854775808)), .val (.is (.int .i64 ((zof na0 M0) - (-9223372036854775808)).sign)), .val (.is (.bool false)), .val (.is (.bool false)), .val (.az N0 (zof na0 M0)), .val (.cz 9223372036854775807), .val (.is (.int .i64 ((zof na0 M0) - 9223372036854775807).sign)), .val (.is (.bool false)), .val (.is (.bool false))] [] [] w.heap.size (by kernel_rfl) (by kernel_rfl) (by kernel_rfl) trivial HB ?_ ?_
  · exact ⟨fun s v h => does_val rfl rfl (x_load_z ((h.same 1 rfl).trans p90) ((h.far q89 b93.lt (by simp)).trans b93)) (f85.mono ((Mono.drew _).trans h.mono)),
      fun s v h => does_call rfl rfl (x_call1 Try.call72) (r2of_k rfl (by decide) (by decide)),
      fun s v h => does_call rfl rfl (x_call2 Try.call93) (r2cmp_k (h.dep 0 rfl) ((h.dep 1 rfl).az (N := 2) (show (digs (Int.natAbs (-9223372036854775808))).length ≤ 2 from digs_len_le (by decide))) (by omega) (by omega)),
      fun s v h => does_val rfl rfl (x_lss (h.dep 2 rfl) rfl) (congrArg Value.bool d1),
      fun s v h => does_val rfl rfl (x_move) (h.dep 3 rfl),
      fun s v h => does_val rfl (wanted_by (b := false) (want := false) rfl rfl (h.dep 4 rfl)) (x_load_z ((h.same 1 rfl).trans p90) ((h.far q89 b93.lt (by simp)).trans b93)) (f85.mono ((Mono.drew _).trans h.mono)),
      fun s v h => does_call rfl (wanted_by (b := false) (want := false) rfl rfl (h.dep 4 rfl)) (x_call1 Try.call72) (r2of_k rfl (by decide) (by decide)),
      fun s v h => does_call rfl (wanted_by (b := false) (want := false) rfl rfl (h.dep 4 rfl)) (x_call2 Try.call93) (r2cmp_k (h.dep 5 rfl) ((h.dep 6 rfl).az (N := 2) (show (digs (Int.natAbs 9223372036854775807)).length ≤ 2 from digs_len_le (by decide))) (by omega) (by omega)),
      fun s v h => does_val rfl (wanted_by (b := false) (want := false) rfl rfl (h.dep 4 rfl)) (x_gtr (h.dep 7 rfl) rfl) (congrArg Value.bool d2),
      fun s v h => does_val rfl rfl (x_pick (h.dep 4 rfl)) (h.dep 8 rfl), trivial⟩
  intro g95 ts v95 hts E95
  simp only [fillL, Nat.reduceAdd, List.setIfInBounds_toArray, List.set_cons_zero, List.set_cons_succ] at hts
  subst hts
  have T96 : Below w.heap.size w v95 := (below_toDrew T84).trans E95.below
  have l97 : q89 < v83.heap.size := b93.lt
  have b98 : Bx v95 q89 24 #[.bool na0, .slice A0 n0 c0] := (E95.far q89 b93.lt (by simp)).trans b93
  have f99 := f85.mono ((Mono.drew _).trans E95.mono)
  have f100 := f86.mono ((Mono.drew _).trans E95.mono)
  have f101 : Az N0 v95 (g95 0) (zof na0 M0) := E95.facts 0 (by decide)
  have f102 : Cz v95 (g95 1) (-9223372036854775808) := E95.facts 1 (by decide)
  have f106 : Az N0 v95 (g95 5) (zof na0 M0) := E95.facts 5 (by decide)
  have f107 : Cz v95 (g95 6) 9223372036854775807 := E95.facts 6 (by decide)
  have e110 : g95 9 = (.bool false) := E95.facts 9 (by decide)
  refine then_normal ?_
  refine wp_cond_false e110 ?_
  refine wp_skip ?_
  refine then_normal ?_
  refine wp_seq ?_
  have HB : w.heap.size ≤ v95.heap.size := T96.size
  refine wp_plan_seq [.val (.is (.pointer (some ⟨q89, 1, none⟩))), .val (.nz N0 M0), .val (.cn M0), .val (.cn M0)] [] [] w.heap.size (by kernel_rfl) (by kernel_rfl) trivial HB ?_ ?_
  · exact ⟨fun s v h => does_val rfl rfl (x_fld (by decide) ((h.same 1 rfl).trans p90)) rfl,
      fun s v h => does_val rfl rfl (x_load_s (h.dep 0 rfl) ((h.far q89 b98.lt (by simp)).trans b98)) (f100.mono h.mono),
      fun s v h => does_call rfl rfl (x_call1 Try.call68) (rnorm_cn (h.dep 1 rfl) (by omega)),
      fun s v h => does_val rfl rfl (x_assign) (h.dep 2 rfl), trivial⟩
  intro g111 ts v111 hts E111
  simp only [fillL, Nat.reduceAdd, List.setIfInBounds_toArray, List.set_cons_zero, List.set_cons_succ] at hts
  subst hts
  have T112 : Below w.heap.size w v111 := T96.trans E111.below
  have l113 : q89 < v95.heap.size := b98.lt
  have b114 : Bx v111 q89 24 #[.bool na0, .slice A0 n0 c0] := (E111.far q89 b98.lt (by simp)).trans b98
  have f115 := f99.mono E111.mono
  have f116 := f100.mono E111.mono
  have f117 := f101.mono E111.mono
  have f118 := f102.mono E111.mono
  have f119 := f106.mono E111.mono
  have f120 := f107.mono E111.mono
  have f121 : Nz N0 v111 (g111 1) M0 := E111.facts 1 (by decide)
  have f122 : Cn v111 (g111 2) M0 := E111.facts 2 (by decide)
  have f123 : Cn v111 (g111 3) M0 := E111.facts 3 (by decide)
  refine then_normal ?_
  refine wp_seq ?_
  rw [p90]
  obtain ⟨A4, c4, e4, hS4⟩ := f123
  rw [e4]
  have hb0 : v111.cell? ⟨q89, 0, none⟩ = some (.bool na0) := cell_of_row _ _ 0 _ _ (0, 0) b114
  have hT := T112
  clear b114 f115 f116 f117 f118 f119 f120 f121 f122
  subst hna
  rw [hd] at hS4
  obtain ⟨b4, off4, rfl, hlt4, hc4⟩ := hS4.cells (by simp)
  have k0 := hc4 0 (by simp)
  have k1 := hc4 1 (by simp)
  rw [hd]
  simp only [List.getD_cons_zero, List.getD_cons_succ, Nat.add_zero] at k0 k1
  clear hS4 e4 hc4 hl
  go_wp2
  refine wp_loop_rounds 3 ?_
  rw [rounds_succ]
  go_wp2
  rw [rounds_succ]
  go_wp2
  rw [rounds_succ]
  go_wp2
  exact bodyPost_ret (results_tmp2 (t := 2) (u := 3) rfl _ _ _) rfl ⟨_, rfl, ⟨_, _, rfl, rfl, rfl⟩, hT⟩

theorem digs2 {l : List Int} (h : l.length ≤ 2) : l = [] ∨ (∃ a, l = [a]) ∨ ∃ a b, l = [a, b] := by
  match l, h with
  | [], _ => exact .inl rfl
  | [a], _ => exact .inr (.inl ⟨a, rfl⟩)
  | [a, b], _ => exact .inr (.inr ⟨a, b, rfl⟩)
  | _ :: _ :: _ :: _, h => simp at h
set_option maxRecDepth 8000 in
theorem r2small_k {w : World} {x : Value} {z : Int} (h : Cz w x z) (h0 : 0 ≤ z) (h1 : z < 9223372036854775808) : Calls Try.prog 67 #[x] w (Ret (.tup2 (.is (.int .i64 z)) (.is (.bool true))) w) := by
  obtain ⟨A, c, rfl, hS⟩ := h
  have hlen : (digs z.natAbs).length ≤ 2 := digs_len_le (by omega)
  have hm : Nz 2 w (.slice A (digs z.natAbs).length c) z.natAbs := Nz.of_sl hS hlen
  have hz : zof (decide (z < 0)) z.natAbs = z := zof_z z
  have hna : decide (z < 0) = false := by simp; omega
  have d1 : decide ((zof (decide (z < 0)) z.natAbs - (-9223372036854775808)).sign < 0) = false := by
    rw [hz]
    have := Int.sign_nonneg_iff.2 (show 0 ≤ z - (-9223372036854775808) by omega)
    simp
    omega
  have d2 : decide (0 < (zof (decide (z < 0)) z.natAbs - 9223372036854775807).sign) = false := by
    rw [hz]
    have := Int.sign_nonneg_iff.2 (show 0 ≤ -(z - 9223372036854775807) by omega)
    rw [Int.sign_neg] at this
    simp
    omega
  have hv := val_digs z.natAbs
  have hl := digs_lim z.natAbs
  have fin : ∀ k : Int, z = k → Calls Try.prog 67 #[.agg #[.bool (decide (z < 0)), .slice A (digs z.natAbs).length c]] w (Ret (.tup2 (.is (.int .i64 k)) (.is (.bool true))) w) →
      Calls Try.prog 67 #[.agg #[.bool (decide (z < 0)), .slice A (digs z.natAbs).length c]] w (Ret (.tup2 (.is (.int .i64 z)) (.is (.bool true))) w) := fun k e h => by
    rw [show Value.int .i64 z = .int .i64 k by rw [e]]
    exact h
  rcases digs2 hlen with hd | ⟨a, hd⟩ | ⟨a, b, hd⟩
  · rw [hd] at hv
    have e : z = 0 := by simp only [val] at hv; omega
    exact fin _ e (small_nil hm (by omega) hna hd d1 d2)
  · rw [hd] at hv hl
    have ha := hl.head
    have e : z = a := by simp only [val] at hv; omega
    exact fin _ e (small_one hm (by omega) hna a hd d1 d2)
  · rw [hd] at hv hl
    have ha := hl.head
    have hb := hl.tail.head
    have e : z = b * 4294967296 + a := by simp only [val] at hv; omega
    exact fin _ e (small_two hm (by omega) hna a b (by omega) hd d1 d2)

end Go.Proofs.Ytkidgeeedigkhaa
