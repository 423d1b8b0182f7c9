
/- rat.valid, made, Make, Of. -/
import Derived.Test.YtdmahjbjlppeaaaRegR
import Derived.Test.YtdmahjbjlppeaaaNumQ
import Derived.Test.YtdmahjbjlppeaaaY3
import Derived.Test.YtdmahjbjlppeaaaYCmp
import Derived.LoopN
namespace Go.Proofs.Ytdmahjbjlppeaaa
open Go.RowKit

set_option maxHeartbeats 4000000 in
set_option maxRecDepth 8000 in
theorem valid1_f {w : World} {g0 N0 : Nat} {p q : Int} {b s b2 s2 : Value} (hB : Bx w g0 29 #[b, s, b2, s2]) (h0 : Rz N0 w (.agg #[b, s, b2, s2]) p q) (d1 : decide (q.sign ≤ 0) = false)  : Calls Try.prog 41 #[.slice (some ⟨g0, 0, none⟩) 1 1] w (Ret (.is (.int .i64 0)) w) := by
  have T0 : Below w.heap.size w w := Below.refl _ _
  go_enter Try.func41, Try.ntmps41
  refine wp_seq ?_
  have HB : w.heap.size ≤ w.heap.size := T0.size
  refine wp_plan_seq [.val (.is (.int .i64 0))] [] [] w.heap.size (by kernel_rfl) (by kernel_rfl) trivial HB ?_ ?_
  · exact ⟨fun s v h => does_val rfl rfl (x_assign) rfl, trivial⟩
  intro g1 ts v1 hts E1
  simp only [fillL, List.setIfInBounds_toArray, List.set_cons_zero, List.set_cons_succ] at hts
  subst hts
  have T2 : Below w.heap.size w v1 := T0.trans E1.below
  have l3 : g0 < w.heap.size := hB.lt
  have b4 : Bx v1 g0 29 #[b, s, b2, s2] := (E1.far g0 hB.lt (by simp)).trans hB
  have f5 := (pair_mono h0 E1.mono)
  refine then_normal ?_
  refine wp_seq ?_
  refine wp_seq ?_
  have HB : w.heap.size ≤ v1.heap.size := T2.size
  refine wp_plan_seq [.val (.is (.slice (some ⟨g0, 0, none⟩) 1 1)), .val (.is (.int .i64 1)), .val (.is (.int .i64 0))] [] [] w.heap.size (by kernel_rfl) (by kernel_rfl) trivial HB ?_ ?_
  · exact ⟨fun s v h => does_val rfl rfl (x_move) (h.same 0 rfl),
      fun s v h => does_val rfl rfl (x_len_r (h.dep 0 rfl)) rfl,
      fun s v h => does_val rfl rfl (x_move) rfl, trivial⟩
  intro g7 ts v7 hts E7
  simp only [fillL, Nat.reduceAdd, List.setIfInBounds_toArray, List.set_cons_zero, List.set_cons_succ] at hts
  subst hts
  have T8 : Below w.heap.size w v7 := T2.trans E7.below
  have l9 : g0 < v1.heap.size := b4.lt
  have b10 : Bx v7 g0 29 #[b, s, b2, s2] := (E7.far g0 b4.lt (by simp)).trans b4
  have f11 := (pair_mono f5 E7.mono)
  have e12 : g7 0 = (.slice (some ⟨g0, 0, none⟩) 1 1) := E7.facts 0 (by decide)
  have e13 : g7 1 = (.int .i64 1) := E7.facts 1 (by decide)
  have e14 : g7 2 = (.int .i64 0) := E7.facts 2 (by decide)
  refine then_normal ?_
  refine wp_block ?_
  refine wp_loop_rounds 2 ?_
  rw [rounds_succ]
  refine wp_seq ?_
  have HB : w.heap.size ≤ v7.heap.size := T8.size
  refine wp_plan_seq [.val (.is (.bool true))] [] [] w.heap.size (by kernel_rfl) (by kernel_rfl) trivial HB ?_ ?_
  · exact ⟨fun s v h => does_val rfl rfl (x_lss ((h.same 7 rfl).trans e14) ((h.same 6 rfl).trans e13)) rfl, trivial⟩
  intro g15 ts v15 hts E15
  simp only [fillL, List.setIfInBounds_toArray, List.set_cons_zero, List.set_cons_succ] at hts
  subst hts
  have T16 : Below w.heap.size w v15 := T8.trans E15.below
  have l17 : g0 < v7.heap.size := b10.lt
  have b18 : Bx v15 g0 29 #[b, s, b2, s2] := (E15.far g0 b10.lt (by simp)).trans b10
  have f19 := (pair_mono f11 E15.mono)
  have e20 : g15 0 = (.bool true) := E15.facts 0 (by decide)
  refine then_normal ?_
  refine wp_seq ?_
  refine wp_cond_true e20 ?_
  refine wp_skip ?_
  refine then_normal ?_
  refine wp_seq ?_
  refine wp_block ?_
  refine wp_seq ?_
  have HB : w.heap.size ≤ v15.heap.size := T16.size
  refine wp_plan_seq [.val (.is (.pointer (some ⟨g0, 0, none⟩))), .val (.pair (.az N0 p) (.az N0 q)), .new 4 none, .put 4 10] [] [] w.heap.size (by kernel_rfl) (by kernel_rfl) trivial HB ?_ ?_
  · exact ⟨fun s v h => does_val rfl rfl (x_idx_r (k := 0) ((h.same 5 rfl).trans e12) ((h.same 7 rfl).trans e14) (by decide)) rfl,
      fun s v h => does_val rfl rfl (x_load_e (h.dep 0 rfl) ((h.far g0 b18.lt (by simp)).trans b18) rfl rfl rfl rfl) (pair_mono f19 h.mono),
      fun s v h => does_new rfl rfl x_alloc_r (okr _ _ _ _ _ _ _ _) rfl (.inl rfl),
      fun s v h => by obtain ⟨q, e1, e2, e3⟩ := new_at (h.dep 2 rfl); exact does_put_r rfl rfl e1 (pair_shape (num_az _ _) (num_az _ _) (h.dep 1 rfl)) e3 (Nat.le_trans HB e2), trivial⟩
  intro g21 ts v21 hts E21
  simp only [fillL, Nat.reduceAdd, List.setIfInBounds_toArray, List.set_cons_zero, List.set_cons_succ] at hts
  subst hts
  have T22 : Below w.heap.size w v21 := T16.trans E21.below
  have l23 : g0 < v15.heap.size := b18.lt
  have b24 : Bx v21 g0 29 #[b, s, b2, s2] := (E21.far g0 b18.lt (by simp)).trans b18
  have f26 : ((.pair (.az N0 p) (.az N0 q)) : Known).p v21 (g21 1) := E21.facts 1 (by decide)
  obtain ⟨q27, p28, l29, o30⟩ : ∃ q, g21 2 = .pointer (some ⟨q, 0, none⟩) ∧ v15.heap.size ≤ q ∧ OkB v21 q 4 := E21.facts 2 (by decide)
  have h31 : w.heap.size ≤ q27 := Nat.le_trans HB l29
  obtain ⟨t33, x35, A36, m37, c38, x39, A40, m41, c42, e43, b34⟩ := put_info4 (E21.facts 3 (by decide)) p28 (pair_shape (num_az _ _) (num_az _ _) f26)
  have f44 : ((.pair (.az N0 p) (.az N0 q)) : Known).p v21 (.agg #[.bool x35, .slice A36 m37 c38, .bool x39, .slice A40 m41 c42]) := pair_at f26 e43.symm
  refine then_normal ?_
  refine wp_seq ?_
  have HB : w.heap.size ≤ v21.heap.size := T22.size
  refine wp_plan_seq [.val (.is (.pointer (some ⟨q27, 2, none⟩))), .val (.az N0 q), .val (.is (.int .i64 q.sign)), .val (.is (.bool false))] [] [] w.heap.size (by kernel_rfl) (by kernel_rfl) trivial HB ?_ ?_
  · exact ⟨fun s v h => does_val rfl rfl (x_fld_r1 ((h.same 4 rfl).trans p28)) rfl,
      fun s v h => does_val rfl rfl (x_load_r1 (h.dep 0 rfl) ((h.far q27 b34.lt (by simp)).trans b34)) (pair_snd (pair_mono f44 h.mono)),
      fun s v h => does_call rfl rfl (x_call1 Try.call43) (sign_k (h.dep 1 rfl)),
      fun s v h => does_val rfl rfl (x_leq (h.dep 2 rfl) rfl) (congrArg Value.bool d1), trivial⟩
  intro g45 ts v45 hts E45
  simp only [fillL, Nat.reduceAdd, List.setIfInBounds_toArray, List.set_cons_zero, List.set_cons_succ] at hts
  subst hts
  have T46 : Below w.heap.size w v45 := T22.trans E45.below
  have l47 : g0 < v21.heap.size := b24.lt
  have l48 : q27 < v21.heap.size := b34.lt
  have b49 : Bx v45 g0 29 #[b, s, b2, s2] := (E45.far g0 b24.lt (by simp)).trans b24
  have b50 : Bx v45 q27 t33 #[.bool x35, .slice A36 m37 c38, .bool x39, .slice A40 m41 c42] := (E45.far q27 b34.lt (by simp)).trans b34
  have e56 : g45 3 = (.bool false) := E45.facts 3 (by decide)
  refine then_normal ?_
  refine wp_cond_false e56 ?_
  refine wp_skip ?_
  refine block_normal ?_
  refine then_normal ?_
  have HB : w.heap.size ≤ v45.heap.size := T46.size
  refine wp_plan_seq [.val (.is (.int .i64 (0 + 1))), .val (.is (.int .i64 (0 + 1)))] [] [] w.heap.size (by kernel_rfl) (by kernel_rfl) trivial HB ?_ ?_
  · exact ⟨fun s v h => does_val rfl rfl (x_add ((h.soon 1 7 rfl rfl).trans e14) rfl (by rw [IntKind.wrap_i64]; omega)) rfl,
      fun s v h => does_val rfl rfl (x_move) (h.dep 0 rfl), trivial⟩
  intro g57 ts v57 hts E57
  simp only [fillL, Nat.reduceAdd, List.setIfInBounds_toArray, List.set_cons_zero, List.set_cons_succ] at hts
  subst hts
  have T58 : Below w.heap.size w v57 := T46.trans E57.below
  have l59 : g0 < v45.heap.size := b49.lt
  have l60 : q27 < v45.heap.size := b50.lt
  have b61 : Bx v57 g0 29 #[b, s, b2, s2] := (E57.far g0 b49.lt (by simp)).trans b49
  have b62 : Bx v57 q27 t33 #[.bool x35, .slice A36 m37 c38, .bool x39, .slice A40 m41 c42] := (E57.far q27 b50.lt (by simp)).trans b50
  have e68 : g57 1 = (.int .i64 (0 + 1)) := E57.facts 1 (by decide)
  refine then_normal ?_
  rw [rounds_succ]
  refine wp_seq ?_
  have HB : w.heap.size ≤ v57.heap.size := T58.size
  refine wp_plan_seq [.val (.is (.bool false))] [] [] w.heap.size (by kernel_rfl) (by kernel_rfl) trivial HB ?_ ?_
  · exact ⟨fun s v h => does_val rfl rfl (x_lss ((h.same 7 rfl).trans e68) ((h.same 6 rfl).trans e13)) rfl, trivial⟩
  intro g69 ts v69 hts E69
  simp only [fillL, List.setIfInBounds_toArray, List.set_cons_zero, List.set_cons_succ] at hts
  subst hts
  have T70 : Below w.heap.size w v69 := T58.trans E69.below
  have l71 : g0 < v57.heap.size := b61.lt
  have l72 : q27 < v57.heap.size := b62.lt
  have b73 : Bx v69 g0 29 #[b, s, b2, s2] := (E69.far g0 b61.lt (by simp)).trans b61
  have b74 : Bx v69 q27 t33 #[.bool x35, .slice A36 m37 c38, .bool x39, .slice A40 m41 c42] := (E69.far q27 b62.lt (by simp)).trans b62
  have e79 : g69 0 = (.bool false) := E69.facts 0 (by decide)
  refine then_normal ?_
  refine wp_seq ?_
  refine wp_cond_false e79 ?_
  refine wp_exit ?_
  refine exit_then ?_
  refine exit_then ?_
  refine exit_block ?_
  refine then_normal ?_
  refine wp_seq ?_
  have HB : w.heap.size ≤ v69.heap.size := T70.size
  refine wp_plan_seq [.val (.is (.int .i64 0))] [] [] w.heap.size (by kernel_rfl) (by kernel_rfl) trivial HB ?_ ?_
  · exact ⟨fun s v h => does_val rfl rfl (x_assign) rfl, trivial⟩
  intro g80 ts v80 hts E80
  simp only [fillL, List.setIfInBounds_toArray, List.set_cons_zero, List.set_cons_succ] at hts
  subst hts
  have T81 : Below w.heap.size w v80 := T70.trans E80.below
  have l82 : g0 < v69.heap.size := b73.lt
  have l83 : q27 < v69.heap.size := b74.lt
  have e90 : g80 0 = (.int .i64 0) := E80.facts 0 (by decide)
  refine then_normal ?_
  refine wp_ret ?_
  exact bodyPost_ret (results_tmp (t := 2) rfl _ _ _) rfl ⟨_, rfl, e90, T81⟩

set_option maxHeartbeats 4000000 in
set_option maxRecDepth 8000 in
theorem valid1_t {w : World} {g0 N0 : Nat} {p q : Int} {b s b2 s2 : Value} (hB : Bx w g0 29 #[b, s, b2, s2]) (h0 : Rz N0 w (.agg #[b, s, b2, s2]) p q) (d1 : decide (q.sign ≤ 0) = true)  : Calls Try.prog 41 #[.slice (some ⟨g0, 0, none⟩) 1 1] w (Ret (.is (.int .i64 30)) w) := by
  have T0 : Below w.heap.size w w := Below.refl _ _
  go_enter Try.func41, Try.ntmps41
  refine wp_seq ?_
  have HB : w.heap.size ≤ w.heap.size := T0.size
  refine wp_plan_seq [.val (.is (.int .i64 0))] [] [] w.heap.size (by kernel_rfl) (by kernel_rfl) trivial HB ?_ ?_
  · exact ⟨fun s v h => does_val rfl rfl (x_assign) rfl, trivial⟩
  intro g91 ts v91 hts E91
  simp only [fillL, List.setIfInBounds_toArray, List.set_cons_zero, List.set_cons_succ] at hts
  subst hts
  have T92 : Below w.heap.size w v91 := T0.trans E91.below
  have l93 : g0 < w.heap.size := hB.lt
  have b94 : Bx v91 g0 29 #[b, s, b2, s2] := (E91.far g0 hB.lt (by simp)).trans hB
  have f95 := (pair_mono h0 E91.mono)
  refine then_normal ?_
  refine wp_seq ?_
  refine wp_seq ?_
  have HB : w.heap.size ≤ v91.heap.size := T92.size
  refine wp_plan_seq [.val (.is (.slice (some ⟨g0, 0, none⟩) 1 1)), .val (.is (.int .i64 1)), .val (.is (.int .i64 0))] [] [] w.heap.size (by kernel_rfl) (by kernel_rfl) trivial HB ?_ ?_
  · exact ⟨fun s v h => does_val rfl rfl (x_move) (h.same 0 rfl),
      fun s v h => does_val rfl rfl (x_len_r (h.dep 0 rfl)) rfl,
      fun s v h => does_val rfl rfl (x_move) rfl, trivial⟩
  intro g97 ts v97 hts E97
  simp only [fillL, Nat.reduceAdd, List.setIfInBounds_toArray, List.set_cons_zero, List.set_cons_succ] at hts
  subst hts
  have T98 : Below w.heap.size w v97 := T92.trans E97.below
  have l99 : g0 < v91.heap.size := b94.lt
  have b100 : Bx v97 g0 29 #[b, s, b2, s2] := (E97.far g0 b94.lt (by simp)).trans b94
  have f101 := (pair_mono f95 E97.mono)
  have e102 : g97 0 = (.slice (some ⟨g0, 0, none⟩) 1 1) := E97.facts 0 (by decide)
  have e103 : g97 1 = (.int .i64 1) := E97.facts 1 (by decide)
  have e104 : g97 2 = (.int .i64 0) := E97.facts 2 (by decide)
  refine then_normal ?_
  refine wp_block ?_
  refine wp_loop_rounds 1 ?_
  rw [rounds_succ]
  refine wp_seq ?_
  have HB : w.heap.size ≤ v97.heap.size := T98.size
  refine wp_plan_seq [.val (.is (.bool true))] [] [] w.heap.size (by kernel_rfl) (by kernel_rfl) trivial HB ?_ ?_
  · exact ⟨fun s v h => does_val rfl rfl (x_lss ((h.same 7 rfl).trans e104) ((h.same 6 rfl).trans e103)) rfl, trivial⟩
  intro g105 ts v105 hts E105
  simp only [fillL, List.setIfInBounds_toArray, List.set_cons_zero, List.set_cons_succ] at hts
  subst hts
  have T106 : Below w.heap.size w v105 := T98.trans E105.below
  have l107 : g0 < v97.heap.size := b100.lt
  have b108 : Bx v105 g0 29 #[b, s, b2, s2] := (E105.far g0 b100.lt (by simp)).trans b100
  have f109 := (pair_mono f101 E105.mono)
  have e110 : g105 0 = (.bool true) := E105.facts 0 (by decide)
  refine then_normal ?_
  refine wp_seq ?_
  refine wp_cond_true e110 ?_
  refine wp_skip ?_
  refine then_normal ?_
  refine wp_seq ?_
  refine wp_block ?_
  refine wp_seq ?_
  have HB : w.heap.size ≤ v105.heap.size := T106.size
  refine wp_plan_seq [.val (.is (.pointer (some ⟨g0, 0, none⟩))), .val (.pair (.az N0 p) (.az N0 q)), .new 4 none, .put 4 10] [] [] w.heap.size (by kernel_rfl) (by kernel_rfl) trivial HB ?_ ?_
  · exact ⟨fun s v h => does_val rfl rfl (x_idx_r (k := 0) ((h.same 5 rfl).trans e102) ((h.same 7 rfl).trans e104) (by decide)) rfl,
      fun s v h => does_val rfl rfl (x_load_e (h.dep 0 rfl) ((h.far g0 b108.lt (by simp)).trans b108) rfl rfl rfl rfl) (pair_mono f109 h.mono),
      fun s v h => does_new rfl rfl x_alloc_r (okr _ _ _ _ _ _ _ _) rfl (.inl rfl),
      fun s v h => by obtain ⟨q, e1, e2, e3⟩ := new_at (h.dep 2 rfl); exact does_put_r rfl rfl e1 (pair_shape (num_az _ _) (num_az _ _) (h.dep 1 rfl)) e3 (Nat.le_trans HB e2), trivial⟩
  intro g111 ts v111 hts E111
  simp only [fillL, Nat.reduceAdd, List.setIfInBounds_toArray, List.set_cons_zero, List.set_cons_succ] at hts
  subst hts
  have T112 : Below w.heap.size w v111 := T106.trans E111.below
  have l113 : g0 < v105.heap.size := b108.lt
  have b114 : Bx v111 g0 29 #[b, s, b2, s2] := (E111.far g0 b108.lt (by simp)).trans b108
  have f116 : ((.pair (.az N0 p) (.az N0 q)) : Known).p v111 (g111 1) := E111.facts 1 (by decide)
  obtain ⟨q117, p118, l119, o120⟩ : ∃ q, g111 2 = .pointer (some ⟨q, 0, none⟩) ∧ v105.heap.size ≤ q ∧ OkB v111 q 4 := E111.facts 2 (by decide)
  have h121 : w.heap.size ≤ q117 := Nat.le_trans HB l119
  obtain ⟨t123, x125, A126, m127, c128, x129, A130, m131, c132, e133, b124⟩ := put_info4 (E111.facts 3 (by decide)) p118 (pair_shape (num_az _ _) (num_az _ _) f116)
  have f134 : ((.pair (.az N0 p) (.az N0 q)) : Known).p v111 (.agg #[.bool x125, .slice A126 m127 c128, .bool x129, .slice A130 m131 c132]) := pair_at f116 e133.symm
  refine then_normal ?_
  refine wp_seq ?_
  have HB : w.heap.size ≤ v111.heap.size := T112.size
  refine wp_plan_seq [.val (.is (.pointer (some ⟨q117, 2, none⟩))), .val (.az N0 q), .val (.is (.int .i64 q.sign)), .val (.is (.bool true))] [] [] w.heap.size (by kernel_rfl) (by kernel_rfl) trivial HB ?_ ?_
  · exact ⟨fun s v h => does_val rfl rfl (x_fld_r1 ((h.same 4 rfl).trans p118)) rfl,
      fun s v h => does_val rfl rfl (x_load_r1 (h.dep 0 rfl) ((h.far q117 b124.lt (by simp)).trans b124)) (pair_snd (pair_mono f134 h.mono)),
      fun s v h => does_call rfl rfl (x_call1 Try.call43) (sign_k (h.dep 1 rfl)),
      fun s v h => does_val rfl rfl (x_leq (h.dep 2 rfl) rfl) (congrArg Value.bool d1), trivial⟩
  intro g135 ts v135 hts E135
  simp only [fillL, Nat.reduceAdd, List.setIfInBounds_toArray, List.set_cons_zero, List.set_cons_succ] at hts
  subst hts
  have T136 : Below w.heap.size w v135 := T112.trans E135.below
  have l137 : g0 < v111.heap.size := b114.lt
  have l138 : q117 < v111.heap.size := b124.lt
  have b139 : Bx v135 g0 29 #[b, s, b2, s2] := (E135.far g0 b114.lt (by simp)).trans b114
  have b140 : Bx v135 q117 t123 #[.bool x125, .slice A126 m127 c128, .bool x129, .slice A130 m131 c132] := (E135.far q117 b124.lt (by simp)).trans b124
  have e146 : g135 3 = (.bool true) := E135.facts 3 (by decide)
  refine then_normal ?_
  refine wp_cond_true e146 ?_
  refine wp_seq ?_
  have HB : w.heap.size ≤ v135.heap.size := T136.size
  refine wp_plan_seq [.val (.is (.int .i64 30))] [] [] w.heap.size (by kernel_rfl) (by kernel_rfl) trivial HB ?_ ?_
  · exact ⟨fun s v h => does_val rfl rfl (x_assign) rfl, trivial⟩
  intro g147 ts v147 hts E147
  simp only [fillL, List.setIfInBounds_toArray, List.set_cons_zero, List.set_cons_succ] at hts
  subst hts
  have T148 : Below w.heap.size w v147 := T136.trans E147.below
  have l149 : g0 < v135.heap.size := b139.lt
  have l150 : q117 < v135.heap.size := b140.lt
  have e157 : g147 0 = (.int .i64 30) := E147.facts 0 (by decide)
  refine then_normal ?_
  refine wp_ret ?_
  exact bodyPost_ret (results_tmp (t := 2) rfl _ _ _) rfl ⟨_, rfl, e157, T148⟩

/-- What valid says of one, of two. -/
theorem valid1_k {w0 w : World} {x : Value} {N0 : Nat} {p q : Int} {b s b2 s2 : Value} {d : Bool} (h : ∃ g, x = mk (some 1) g ∧ w0.heap.size ≤ g ∧ OkB w g 4 ∧ Bx w g 29 #[b, s, b2, s2]) (h0 : Rz N0 w (.agg #[b, s, b2, s2]) p q) (hd : decide (q.sign ≤ 0) = d) :
    Calls Try.prog 41 #[x] w (Ret (.is (.int .i64 (if d then 30 else 0))) w) := by
  obtain ⟨g, rfl, _, _, hB⟩ := h
  cases d
  · exact valid1_f hB h0 hd
  · exact valid1_t hB h0 hd
set_option maxHeartbeats 4000000 in
set_option maxRecDepth 8000 in
theorem qmade_p {w : World} {x : Value} {p : Int} {N0 : Nat} (h0 : Az N0 w x p) {y : Value} {q : Int} {N1 : Nat} (h1 : Az N1 w y q) (hN0 : N0 ≤ 1000000000) (hN1 : N1 ≤ 1000000000) (hq : q ≠ 0) (d : decide (q.sign < 0) = false)  : Calls Try.prog 44 #[x, y] w (Ret (.pair (.cz (rn p q)) (.cz (rd p q))) w) := by
  have la0 := h0.len
  obtain ⟨na0, A0, n0, c0, M0, rfl, hm0, hz0⟩ := h0.parts
  have la1 := h1.len
  obtain ⟨na1, A1, n1, c1, M1, rfl, hm1, hz1⟩ := h1.parts
  obtain ⟨Ex1, Ex2, Ex3, Ex4, Ex5⟩ := made_pos (p := p) hq d
  have lG := gcd_lenq (a := p) (b := q) (by omega) (la1)
  have T0 : Below w.heap.size w w := Below.refl _ _
  go_enter Try.func44, Try.ntmps44
  refine wp_seq ?_
  have HB : w.heap.size ≤ w.heap.size := T0.size
  refine wp_plan_seq [.new 2 (some (24, #[.bool na0, .slice A0 n0 c0])), .new 2 (some (24, #[.bool na1, .slice A1 n1 c1])), .new 4 (some (29, #[.bool false, .slice none 0 0, .bool false, .slice none 0 0]))] [] [] w.heap.size (by kernel_rfl) (by kernel_rfl) trivial HB ?_ ?_
  · exact ⟨fun s v h => does_new rfl rfl (x_box_z (h.same 0 rfl)) (okz _ _ _ _) rfl (.inr rfl),
      fun s v h => does_new rfl rfl (x_box_z (h.same 1 rfl)) (okz _ _ _ _) rfl (.inr rfl),
      fun s v h => does_new rfl rfl x_alloc_r (okr _ _ _ _ _ _ _ _) rfl (.inr rfl), trivial⟩
  intro g570 ts v570 hts E570
  simp only [fillL, Nat.reduceAdd, List.setIfInBounds_toArray, List.set_cons_zero, List.set_cons_succ] at hts
  subst hts
  have T571 : Below w.heap.size w v570 := T0.trans E570.below
  have f572 := (h0.mono E570.mono)
  have f574 := (h1.mono E570.mono)
  obtain ⟨q576, p577, l578, o579, b580⟩ : ∃ q, g570 0 = .pointer (some ⟨q, 0, none⟩) ∧ w.heap.size ≤ q ∧ OkB v570 q 2 ∧ Bx v570 q 24 #[.bool na0, .slice A0 n0 c0] := E570.facts 0 (by decide)
  have h581 : w.heap.size ≤ q576 := Nat.le_trans HB l578
  obtain ⟨q582, p583, l584, o585, b586⟩ : ∃ q, g570 1 = .pointer (some ⟨q, 0, none⟩) ∧ w.heap.size ≤ q ∧ OkB v570 q 2 ∧ Bx v570 q 24 #[.bool na1, .slice A1 n1 c1] := E570.facts 1 (by decide)
  have h587 : w.heap.size ≤ q582 := Nat.le_trans HB l584
  obtain ⟨q589, p590, l591, o592, b593⟩ : ∃ q, g570 2 = .pointer (some ⟨q, 0, none⟩) ∧ w.heap.size ≤ q ∧ OkB v570 q 4 ∧ Bx v570 q 29 #[.bool false, .slice none 0 0, .bool false, .slice none 0 0] := E570.facts 2 (by decide)
  have h595 : w.heap.size ≤ q589 := Nat.le_trans HB l591
  refine then_normal ?_
  refine wp_seq ?_
  refine wp_seq ?_
  have HB : w.heap.size ≤ v570.heap.size := T571.size
  refine wp_plan_seq [.val (.az N1 q), .val (.is (.int .i64 q.sign)), .val (.is (.bool false))] [] [] w.heap.size (by kernel_rfl) (by kernel_rfl) trivial HB ?_ ?_
  · exact ⟨fun s v h => does_val rfl rfl (x_load_z ((h.same 3 rfl).trans p583) ((h.far q582 b586.lt (by simp)).trans b586)) (f574.mono h.mono),
      fun s v h => does_call rfl rfl (x_call1 Try.call43) (sign_k (h.dep 0 rfl)),
      fun s v h => does_val rfl rfl (x_lss (h.dep 1 rfl) rfl) (congrArg Value.bool d), trivial⟩
  intro g598 ts v598 hts E598
  simp only [fillL, Nat.reduceAdd, List.setIfInBounds_toArray, List.set_cons_zero, List.set_cons_succ] at hts
  subst hts
  have T599 : Below w.heap.size w v598 := T571.trans E598.below
  have l600 : q576 < v570.heap.size := b580.lt
  have l601 : q582 < v570.heap.size := b586.lt
  have l602 : q589 < v570.heap.size := b593.lt
  have b603 : Bx v598 q576 24 #[.bool na0, .slice A0 n0 c0] := (E598.far q576 b580.lt (by simp)).trans b580
  have b604 : Bx v598 q582 24 #[.bool na1, .slice A1 n1 c1] := (E598.far q582 b586.lt (by simp)).trans b586
  have b605 : Bx v598 q589 29 #[.bool false, .slice none 0 0, .bool false, .slice none 0 0] := (E598.far q589 b593.lt (by simp)).trans b593
  have f606 := (f572.mono E598.mono)
  have f608 := (f574.mono E598.mono)
  have e613 : g598 2 = (.bool false) := E598.facts 2 (by decide)
  refine then_normal ?_
  refine wp_cond_false e613 ?_
  refine wp_skip ?_
  refine then_normal ?_
  refine wp_seq ?_
  have HB : w.heap.size ≤ v598.heap.size := T599.size
  refine wp_plan_seq [.val (.az N0 p), .val (.az N1 q), .val (.cz (Int.gcd p q : Int)), .new 2 none, .put 5 19] [] [] w.heap.size (by kernel_rfl) (by kernel_rfl) trivial HB ?_ ?_
  · exact ⟨fun s v h => does_val rfl rfl (x_load_z ((h.same 2 rfl).trans p577) ((h.far q576 b603.lt (by simp)).trans b603)) (f606.mono h.mono),
      fun s v h => does_val rfl rfl (x_load_z ((h.same 3 rfl).trans p583) ((h.far q582 b604.lt (by simp)).trans b604)) (f608.mono h.mono),
      fun s v h => does_call rfl rfl (x_call2 Try.call79) (zgcd_k (h.dep 0 rfl) (h.dep 1 rfl) (by omega) (by omega)),
      fun s v h => does_new rfl rfl x_alloc_z (okz _ _ _ _) rfl (.inl rfl),
      fun s v h => by obtain ⟨q, e1, e2, e3⟩ := new_at (h.dep 3 rfl); exact does_put_z rfl rfl e1 (h.dep 2 rfl).shape e3 (Nat.le_trans HB e2), trivial⟩
  intro g614 ts v614 hts E614
  simp only [fillL, Nat.reduceAdd, List.setIfInBounds_toArray, List.set_cons_zero, List.set_cons_succ] at hts
  subst hts
  have T615 : Below w.heap.size w v614 := T599.trans E614.below
  have l616 : q576 < v598.heap.size := b603.lt
  have l617 : q582 < v598.heap.size := b604.lt
  have l618 : q589 < v598.heap.size := b605.lt
  have b619 : Bx v614 q576 24 #[.bool na0, .slice A0 n0 c0] := (E614.far q576 b603.lt (by simp)).trans b603
  have b620 : Bx v614 q582 24 #[.bool na1, .slice A1 n1 c1] := (E614.far q582 b604.lt (by simp)).trans b604
  have b621 : Bx v614 q589 29 #[.bool false, .slice none 0 0, .bool false, .slice none 0 0] := (E614.far q589 b605.lt (by simp)).trans b605
  have f622 := (f606.mono E614.mono)
  have f624 := (f608.mono E614.mono)
  have f630 : Cz v614 (g614 2) (Int.gcd p q : Int) := E614.facts 2 (by decide)
  obtain ⟨q631, p632, l633, o634⟩ : ∃ q, g614 3 = .pointer (some ⟨q, 0, none⟩) ∧ v598.heap.size ≤ q ∧ OkB v614 q 2 := E614.facts 3 (by decide)
  have h635 : w.heap.size ≤ q631 := Nat.le_trans HB l633
  obtain ⟨t639, x641, A642, m643, c644, e645, b640⟩ := put_info (E614.facts 4 (by decide)) p632 f630.shape
  have f646 : Cz v614 (.agg #[.bool x641, .slice A642 m643 c644]) (Int.gcd p q : Int) := f630.at e645.symm
  refine then_normal ?_
  refine wp_seq ?_
  have HB : w.heap.size ≤ v614.heap.size := T615.size
  refine wp_plan_seq [.val (.az N0 p), .val (.cz (Int.gcd p q : Int)), .val (.tup2 (.cz (fl p (Int.gcd p q : Int))) (.is (.int .i64 0))), .val (.tup2 (.cz (fl p (Int.gcd p q : Int))) (.is (.int .i64 0))), .val (.cz (fl p (Int.gcd p q : Int))), .val (.is (.int .i64 0)), .new 2 none, .put 6 24, .val (.is (.int .i64 0))] [] [] w.heap.size (by kernel_rfl) (by kernel_rfl) trivial HB ?_ ?_
  · exact ⟨fun s v h => does_val rfl rfl (x_load_z ((h.same 2 rfl).trans p577) ((h.far q576 b619.lt (by simp)).trans b619)) (f622.mono h.mono),
      fun s v h => does_val rfl rfl (x_load_z ((h.same 5 rfl).trans p632) ((h.far q631 b640.lt (by simp)).trans b640)) (f646.mono h.mono),
      fun s v h => does_call rfl rfl (x_call2 Try.call80) (zexact_a (h.dep 0 rfl) ((h.dep 1 rfl).az (N := N1) lG) (by omega) (by omega) Ex3 Ex4),
      fun s v h => does_val rfl rfl (x_move) (h.dep 2 rfl),
      fun s v h => by obtain ⟨r0, r1, e, f0, f1⟩ := tup2_at (h.dep 3 rfl); exact does_val rfl rfl (x_ext e rfl) f0,
      fun s v h => by obtain ⟨r0, r1, e, f0, f1⟩ := tup2_at (h.dep 3 rfl); exact does_val rfl rfl (x_ext e rfl) f1,
      fun s v h => does_new rfl rfl x_alloc_z (okz _ _ _ _) rfl (.inl rfl),
      fun s v h => by obtain ⟨q, e1, e2, e3⟩ := new_at (h.dep 6 rfl); exact does_put_z rfl rfl e1 (h.dep 4 rfl).shape e3 (Nat.le_trans HB e2),
      fun s v h => does_val rfl rfl (x_assign) (h.dep 5 rfl), trivial⟩
  intro g647 ts v647 hts E647
  simp only [fillL, Nat.reduceAdd, List.setIfInBounds_toArray, List.set_cons_zero, List.set_cons_succ] at hts
  subst hts
  have T648 : Below w.heap.size w v647 := T615.trans E647.below
  have l649 : q576 < v614.heap.size := b619.lt
  have l650 : q582 < v614.heap.size := b620.lt
  have l651 : q589 < v614.heap.size := b621.lt
  have l652 : q631 < v614.heap.size := b640.lt
  have b653 : Bx v647 q576 24 #[.bool na0, .slice A0 n0 c0] := (E647.far q576 b619.lt (by simp)).trans b619
  have b654 : Bx v647 q582 24 #[.bool na1, .slice A1 n1 c1] := (E647.far q582 b620.lt (by simp)).trans b620
  have b655 : Bx v647 q589 29 #[.bool false, .slice none 0 0, .bool false, .slice none 0 0] := (E647.far q589 b621.lt (by simp)).trans b621
  have b656 : Bx v647 q631 t639 #[.bool x641, .slice A642 m643 c644] := (E647.far q631 b640.lt (by simp)).trans b640
  have f659 := (f624.mono E647.mono)
  have f666 := (f646.mono E647.mono)
  have f669 : Cz v647 (g647 4) (fl p (Int.gcd p q : Int)) := E647.facts 4 (by decide)
  obtain ⟨q672, p673, l674, o675⟩ : ∃ q, g647 6 = .pointer (some ⟨q, 0, none⟩) ∧ v614.heap.size ≤ q ∧ OkB v647 q 2 := E647.facts 6 (by decide)
  have h676 : w.heap.size ≤ q672 := Nat.le_trans HB l674
  have n679 : q589 ≠ q672 := by omega
  obtain ⟨t681, x683, A684, m685, c686, e687, b682⟩ := put_info (E647.facts 7 (by decide)) p673 f669.shape
  have f688 : Cz v647 (.agg #[.bool x683, .slice A684 m685 c686]) (fl p (Int.gcd p q : Int)) := f669.at e687.symm
  refine then_normal ?_
  refine wp_seq ?_
  have HB : w.heap.size ≤ v647.heap.size := T648.size
  refine wp_plan_seq [.val (.az N1 q), .val (.cz (Int.gcd p q : Int)), .val (.tup2 (.cz (fl q (Int.gcd p q : Int))) (.is (.int .i64 0))), .val (.tup2 (.cz (fl q (Int.gcd p q : Int))) (.is (.int .i64 0))), .val (.cz (fl q (Int.gcd p q : Int))), .val (.is (.int .i64 0)), .new 2 none, .put 8 30, .val (.is (.int .i64 0))] [] [] w.heap.size (by kernel_rfl) (by kernel_rfl) trivial HB ?_ ?_
  · exact ⟨fun s v h => does_val rfl rfl (x_load_z ((h.same 3 rfl).trans p583) ((h.far q582 b654.lt (by simp)).trans b654)) (f659.mono h.mono),
      fun s v h => does_val rfl rfl (x_load_z ((h.same 5 rfl).trans p632) ((h.far q631 b656.lt (by simp)).trans b656)) (f666.mono h.mono),
      fun s v h => does_call rfl rfl (x_call2 Try.call80) (zexact_a (h.dep 0 rfl) ((h.dep 1 rfl).az (N := N1) lG) (by omega) (by omega) Ex3 Ex5),
      fun s v h => does_val rfl rfl (x_move) (h.dep 2 rfl),
      fun s v h => by obtain ⟨r0, r1, e, f0, f1⟩ := tup2_at (h.dep 3 rfl); exact does_val rfl rfl (x_ext e rfl) f0,
      fun s v h => by obtain ⟨r0, r1, e, f0, f1⟩ := tup2_at (h.dep 3 rfl); exact does_val rfl rfl (x_ext e rfl) f1,
      fun s v h => does_new rfl rfl x_alloc_z (okz _ _ _ _) rfl (.inl rfl),
      fun s v h => by obtain ⟨q, e1, e2, e3⟩ := new_at (h.dep 6 rfl); exact does_put_z rfl rfl e1 (h.dep 4 rfl).shape e3 (Nat.le_trans HB e2),
      fun s v h => does_val rfl rfl (x_assign) (h.dep 5 rfl), trivial⟩
  intro g689 ts v689 hts E689
  simp only [fillL, Nat.reduceAdd, List.setIfInBounds_toArray, List.set_cons_zero, List.set_cons_succ] at hts
  subst hts
  have T690 : Below w.heap.size w v689 := T648.trans E689.below
  have l691 : q576 < v647.heap.size := b653.lt
  have l692 : q582 < v647.heap.size := b654.lt
  have l693 : q589 < v647.heap.size := b655.lt
  have l694 : q631 < v647.heap.size := b656.lt
  have l695 : q672 < v647.heap.size := b682.lt
  have b696 : Bx v689 q576 24 #[.bool na0, .slice A0 n0 c0] := (E689.far q576 b653.lt (by simp)).trans b653
  have b697 : Bx v689 q582 24 #[.bool na1, .slice A1 n1 c1] := (E689.far q582 b654.lt (by simp)).trans b654
  have b698 : Bx v689 q589 29 #[.bool false, .slice none 0 0, .bool false, .slice none 0 0] := (E689.far q589 b655.lt (by simp)).trans b655
  have b699 : Bx v689 q631 t639 #[.bool x641, .slice A642 m643 c644] := (E689.far q631 b656.lt (by simp)).trans b656
  have b700 : Bx v689 q672 t681 #[.bool x683, .slice A684 m685 c686] := (E689.far q672 b682.lt (by simp)).trans b682
  have f714 := (f688.mono E689.mono)
  have f717 : Cz v689 (g689 4) (fl q (Int.gcd p q : Int)) := E689.facts 4 (by decide)
  obtain ⟨q720, p721, l722, o723⟩ : ∃ q, g689 6 = .pointer (some ⟨q, 0, none⟩) ∧ v647.heap.size ≤ q ∧ OkB v689 q 2 := E689.facts 6 (by decide)
  have h724 : w.heap.size ≤ q720 := Nat.le_trans HB l722
  have n727 : q589 ≠ q720 := by omega
  obtain ⟨t730, x732, A733, m734, c735, e736, b731⟩ := put_info (E689.facts 7 (by decide)) p721 f717.shape
  have f737 : Cz v689 (.agg #[.bool x732, .slice A733 m734 c735]) (fl q (Int.gcd p q : Int)) := f717.at e736.symm
  refine then_normal ?_
  refine wp_seq ?_
  have HB : w.heap.size ≤ v689.heap.size := T690.size
  refine wp_plan_seq [.val (.cz (fl p (Int.gcd p q : Int))), .val (.cz (fl q (Int.gcd p q : Int))), .val (.pair (.cz (fl p (Int.gcd p q : Int))) (.cz (fl q (Int.gcd p q : Int)))), .put 4 34] [4] [q589] w.heap.size (by kernel_rfl) (by kernel_rfl) ⟨p590, b698.lt, (by simp), trivial⟩ HB ?_ ?_
  · exact ⟨fun s v h => does_val rfl rfl (x_load_z ((h.same 6 rfl).trans p673) ((h.far q672 b700.lt (nin1 n679.symm)).trans b700)) (f714.mono h.mono),
      fun s v h => does_val rfl rfl (x_load_z ((h.same 8 rfl).trans p721) ((h.far q720 b731.lt (nin1 n727.symm)).trans b731)) (f737.mono h.mono),
      fun s v h => does_build_r2 rfl rfl (num_cz _) (num_cz _) (h.dep 0 rfl) (h.dep 1 rfl),
      fun s v h => does_put_r rfl rfl ((h.same 4 rfl).trans p590) (pair_shape (num_cz _) (num_cz _) (h.dep 2 rfl)) (h.mono.ok _ _ b698.ok4) h595, trivial⟩
  intro g738 ts v738 hts E738
  simp only [fillL, Nat.reduceAdd, List.setIfInBounds_toArray, List.set_cons_zero, List.set_cons_succ] at hts
  subst hts
  have T739 : Below w.heap.size w v738 := T690.trans E738.below
  have l740 : q576 < v689.heap.size := b696.lt
  have l741 : q582 < v689.heap.size := b697.lt
  have l742 : q589 < v689.heap.size := b698.lt
  have l743 : q631 < v689.heap.size := b699.lt
  have l744 : q672 < v689.heap.size := b700.lt
  have l745 : q720 < v689.heap.size := b731.lt
  have f771 : ((.pair (.cz (fl p (Int.gcd p q : Int))) (.cz (fl q (Int.gcd p q : Int)))) : Known).p v738 (g738 2) := E738.facts 2 (by decide)
  obtain ⟨t772, x774, A775, m776, c777, x778, A779, m780, c781, e782, b773⟩ := put_info4 (E738.facts 3 (by decide)) p590 (pair_shape (num_cz _) (num_cz _) f771)
  have f783 : ((.pair (.cz (fl p (Int.gcd p q : Int))) (.cz (fl q (Int.gcd p q : Int)))) : Known).p v738 (.agg #[.bool x774, .slice A775 m776 c777, .bool x778, .slice A779 m780 c781]) := pair_at f771 e782.symm
  refine then_normal ?_
  refine wp_ret ?_
  exact bodyPost_ret (ret_r rfl p590 b773) rfl ⟨_, rfl, (by have := f783; rw [Ex1, Ex2] at this; exact this), T739⟩

set_option maxHeartbeats 4000000 in
set_option maxRecDepth 8000 in
theorem qmade_n {w : World} {x : Value} {p : Int} {N0 : Nat} (h0 : Az N0 w x p) {y : Value} {q : Int} {N1 : Nat} (h1 : Az N1 w y q) (hN0 : N0 ≤ 1000000000) (hN1 : N1 ≤ 1000000000) (hq : q ≠ 0) (d : decide (q.sign < 0) = true)  : Calls Try.prog 44 #[x, y] w (Ret (.pair (.cz (rn p q)) (.cz (rd p q))) w) := by
  have la0 := h0.len
  obtain ⟨na0, A0, n0, c0, M0, rfl, hm0, hz0⟩ := h0.parts
  have la1 := h1.len
  obtain ⟨na1, A1, n1, c1, M1, rfl, hm1, hz1⟩ := h1.parts
  obtain ⟨Ex1, Ex2, Ex3, Ex4, Ex5⟩ := made_neg (p := p) d
  have lG := gcd_lenq (a := (-p)) (b := (-q)) (by omega) (len_neg la1)
  have T0 : Below w.heap.size w w := Below.refl _ _
  go_enter Try.func44, Try.ntmps44
  refine wp_seq ?_
  have HB : w.heap.size ≤ w.heap.size := T0.size
  refine wp_plan_seq [.new 2 (some (24, #[.bool na0, .slice A0 n0 c0])), .new 2 (some (24, #[.bool na1, .slice A1 n1 c1])), .new 4 (some (29, #[.bool false, .slice none 0 0, .bool false, .slice none 0 0]))] [] [] w.heap.size (by kernel_rfl) (by kernel_rfl) trivial HB ?_ ?_
  · exact ⟨fun s v h => does_new rfl rfl (x_box_z (h.same 0 rfl)) (okz _ _ _ _) rfl (.inr rfl),
      fun s v h => does_new rfl rfl (x_box_z (h.same 1 rfl)) (okz _ _ _ _) rfl (.inr rfl),
      fun s v h => does_new rfl rfl x_alloc_r (okr _ _ _ _ _ _ _ _) rfl (.inr rfl), trivial⟩
  intro g784 ts v784 hts E784
  simp only [fillL, Nat.reduceAdd, List.setIfInBounds_toArray, List.set_cons_zero, List.set_cons_succ] at hts
  subst hts
  have T785 : Below w.heap.size w v784 := T0.trans E784.below
  have f786 := (h0.mono E784.mono)
  have f788 := (h1.mono E784.mono)
  obtain ⟨q790, p791, l792, o793, b794⟩ : ∃ q, g784 0 = .pointer (some ⟨q, 0, none⟩) ∧ w.heap.size ≤ q ∧ OkB v784 q 2 ∧ Bx v784 q 24 #[.bool na0, .slice A0 n0 c0] := E784.facts 0 (by decide)
  have h795 : w.heap.size ≤ q790 := Nat.le_trans HB l792
  obtain ⟨q796, p797, l798, o799, b800⟩ : ∃ q, g784 1 = .pointer (some ⟨q, 0, none⟩) ∧ w.heap.size ≤ q ∧ OkB v784 q 2 ∧ Bx v784 q 24 #[.bool na1, .slice A1 n1 c1] := E784.facts 1 (by decide)
  have h801 : w.heap.size ≤ q796 := Nat.le_trans HB l798
  have n802 : q790 ≠ q796 := E784.apart 0 1 (by decide) (by decide) (by decide) ⟨_, _, _, rfl⟩ ⟨_, _, _, rfl⟩ none _ none _ p791 p797
  obtain ⟨q803, p804, l805, o806, b807⟩ : ∃ q, g784 2 = .pointer (some ⟨q, 0, none⟩) ∧ w.heap.size ≤ q ∧ OkB v784 q 4 ∧ Bx v784 q 29 #[.bool false, .slice none 0 0, .bool false, .slice none 0 0] := E784.facts 2 (by decide)
  have h809 : w.heap.size ≤ q803 := Nat.le_trans HB l805
  have n810 : q790 ≠ q803 := E784.apart 0 2 (by decide) (by decide) (by decide) ⟨_, _, _, rfl⟩ ⟨_, _, _, rfl⟩ none _ none _ p791 p804
  have n811 : q796 ≠ q803 := E784.apart 1 2 (by decide) (by decide) (by decide) ⟨_, _, _, rfl⟩ ⟨_, _, _, rfl⟩ none _ none _ p797 p804
  refine then_normal ?_
  refine wp_seq ?_
  refine wp_seq ?_
  have HB : w.heap.size ≤ v784.heap.size := T785.size
  refine wp_plan_seq [.val (.az N1 q), .val (.is (.int .i64 q.sign)), .val (.is (.bool true))] [] [] w.heap.size (by kernel_rfl) (by kernel_rfl) trivial HB ?_ ?_
  · exact ⟨fun s v h => does_val rfl rfl (x_load_z ((h.same 3 rfl).trans p797) ((h.far q796 b800.lt (by simp)).trans b800)) (f788.mono h.mono),
      fun s v h => does_call rfl rfl (x_call1 Try.call43) (sign_k (h.dep 0 rfl)),
      fun s v h => does_val rfl rfl (x_lss (h.dep 1 rfl) rfl) (congrArg Value.bool d), trivial⟩
  intro g812 ts v812 hts E812
  simp only [fillL, Nat.reduceAdd, List.setIfInBounds_toArray, List.set_cons_zero, List.set_cons_succ] at hts
  subst hts
  have T813 : Below w.heap.size w v812 := T785.trans E812.below
  have l814 : q790 < v784.heap.size := b794.lt
  have l815 : q796 < v784.heap.size := b800.lt
  have l816 : q803 < v784.heap.size := b807.lt
  have b817 : Bx v812 q790 24 #[.bool na0, .slice A0 n0 c0] := (E812.far q790 b794.lt (by simp)).trans b794
  have b818 : Bx v812 q796 24 #[.bool na1, .slice A1 n1 c1] := (E812.far q796 b800.lt (by simp)).trans b800
  have b819 : Bx v812 q803 29 #[.bool false, .slice none 0 0, .bool false, .slice none 0 0] := (E812.far q803 b807.lt (by simp)).trans b807
  have f820 := (f786.mono E812.mono)
  have f822 := (f788.mono E812.mono)
  have e827 : g812 2 = (.bool true) := E812.facts 2 (by decide)
  refine then_normal ?_
  refine wp_cond_true e827 ?_
  have HB : w.heap.size ≤ v812.heap.size := T813.size
  refine wp_plan_any [.val (.az N0 p), .val (.cz (-p)), .val (.az N1 q), .val (.cz (-q)), .put 2 14, .put 3 16] [2, 3] [q790, q796] w.heap.size (by kernel_rfl) (by kernel_rfl) (by kernel_rfl) ⟨p791, b817.lt, (nin1 n802), ⟨p797, b818.lt, (by simp), trivial⟩⟩ HB ?_ ?_
  · exact ⟨fun s v h => does_val rfl rfl (x_load_z ((h.same 2 rfl).trans p791) ((h.held 4 2 14 _ rfl rfl rfl p791).trans b817)) (f820.mono ((Mono.drew _).trans h.mono)),
      fun s v h => does_call rfl rfl (x_call1 Try.call78) (neg_k (h.dep 0 rfl)),
      fun s v h => does_val rfl rfl (x_load_z ((h.same 3 rfl).trans p797) ((h.held 5 3 16 _ rfl rfl rfl p797).trans b818)) (f822.mono ((Mono.drew _).trans h.mono)),
      fun s v h => does_call rfl rfl (x_call1 Try.call78) (neg_k (h.dep 2 rfl)),
      fun s v h => does_put_z rfl rfl ((h.same 2 rfl).trans p791) (h.dep 1 rfl).shape (((Mono.drew _).trans h.mono).ok _ _ b817.ok2) h795,
      fun s v h => does_put_z rfl rfl ((h.same 3 rfl).trans p797) (h.dep 3 rfl).shape (((Mono.drew _).trans h.mono).ok _ _ b818.ok2) h801, trivial⟩
  intro g828 ts v828 hts E828
  simp only [fillL, Nat.reduceAdd, List.setIfInBounds_toArray, List.set_cons_zero, List.set_cons_succ] at hts
  subst hts
  have T829 : Below w.heap.size w v828 := (below_toDrew T813).trans E828.below
  have l830 : q790 < v812.heap.size := b817.lt
  have l831 : q796 < v812.heap.size := b818.lt
  have l832 : q803 < v812.heap.size := b819.lt
  have b833 : Bx v828 q803 29 #[.bool false, .slice none 0 0, .bool false, .slice none 0 0] := (E828.far q803 b819.lt (nin2 n810.symm n811.symm)).trans b819
  have f841 : Cz v828 (g828 1) (-p) := E828.facts 1 (by decide)
  have f843 : Cz v828 (g828 3) (-q) := E828.facts 3 (by decide)
  obtain ⟨t844, x846, A847, m848, c849, e850, b845⟩ := put_info (E828.facts 4 (by decide)) p791 f841.shape
  have f851 : Cz v828 (.agg #[.bool x846, .slice A847 m848 c849]) (-p) := f841.at e850.symm
  obtain ⟨t852, x854, A855, m856, c857, e858, b853⟩ := put_info (E828.facts 5 (by decide)) p797 f843.shape
  have f859 : Cz v828 (.agg #[.bool x854, .slice A855 m856 c857]) (-q) := f843.at e858.symm
  refine then_normal ?_
  refine wp_seq ?_
  have HB : w.heap.size ≤ v828.heap.size := T829.size
  refine wp_plan_seq [.val (.cz (-p)), .val (.cz (-q)), .val (.cz (Int.gcd (-p) (-q) : Int)), .new 2 none, .put 5 19] [] [] w.heap.size (by kernel_rfl) (by kernel_rfl) trivial HB ?_ ?_
  · exact ⟨fun s v h => does_val rfl rfl (x_load_z ((h.same 2 rfl).trans p791) ((h.far q790 b845.lt (by simp)).trans b845)) (f851.mono h.mono),
      fun s v h => does_val rfl rfl (x_load_z ((h.same 3 rfl).trans p797) ((h.far q796 b853.lt (by simp)).trans b853)) (f859.mono h.mono),
      fun s v h => does_call rfl rfl (x_call2 Try.call79) (zgcd_k ((h.dep 0 rfl).az (N := N0) (len_neg la0)) ((h.dep 1 rfl).az (N := N1) (len_neg la1)) (by omega) (by omega)),
      fun s v h => does_new rfl rfl x_alloc_z (okz _ _ _ _) rfl (.inl rfl),
      fun s v h => by obtain ⟨q, e1, e2, e3⟩ := new_at (h.dep 3 rfl); exact does_put_z rfl rfl e1 (h.dep 2 rfl).shape e3 (Nat.le_trans HB e2), trivial⟩
  intro g860 ts v860 hts E860
  simp only [fillL, Nat.reduceAdd, List.setIfInBounds_toArray, List.set_cons_zero, List.set_cons_succ] at hts
  subst hts
  have T861 : Below w.heap.size w v860 := T829.trans E860.below
  have l862 : q790 < v828.heap.size := b845.lt
  have l863 : q796 < v828.heap.size := b853.lt
  have l864 : q803 < v828.heap.size := b833.lt
  have b865 : Bx v860 q790 t844 #[.bool x846, .slice A847 m848 c849] := (E860.far q790 b845.lt (by simp)).trans b845
  have b866 : Bx v860 q796 t852 #[.bool x854, .slice A855 m856 c857] := (E860.far q796 b853.lt (by simp)).trans b853
  have b867 : Bx v860 q803 29 #[.bool false, .slice none 0 0, .bool false, .slice none 0 0] := (E860.far q803 b833.lt (by simp)).trans b833
  have f878 := (f851.mono E860.mono)
  have f879 := (f859.mono E860.mono)
  have f882 : Cz v860 (g860 2) (Int.gcd (-p) (-q) : Int) := E860.facts 2 (by decide)
  obtain ⟨q883, p884, l885, o886⟩ : ∃ q, g860 3 = .pointer (some ⟨q, 0, none⟩) ∧ v828.heap.size ≤ q ∧ OkB v860 q 2 := E860.facts 3 (by decide)
  have h887 : w.heap.size ≤ q883 := Nat.le_trans HB l885
  obtain ⟨t891, x893, A894, m895, c896, e897, b892⟩ := put_info (E860.facts 4 (by decide)) p884 f882.shape
  have f898 : Cz v860 (.agg #[.bool x893, .slice A894 m895 c896]) (Int.gcd (-p) (-q) : Int) := f882.at e897.symm
  refine then_normal ?_
  refine wp_seq ?_
  have HB : w.heap.size ≤ v860.heap.size := T861.size
  refine wp_plan_seq [.val (.cz (-p)), .val (.cz (Int.gcd (-p) (-q) : Int)), .val (.tup2 (.cz (fl (-p) (Int.gcd (-p) (-q) : Int))) (.is (.int .i64 0))), .val (.tup2 (.cz (fl (-p) (Int.gcd (-p) (-q) : Int))) (.is (.int .i64 0))), .val (.cz (fl (-p) (Int.gcd (-p) (-q) : Int))), .val (.is (.int .i64 0)), .new 2 none, .put 6 24, .val (.is (.int .i64 0))] [] [] w.heap.size (by kernel_rfl) (by kernel_rfl) trivial HB ?_ ?_
  · exact ⟨fun s v h => does_val rfl rfl (x_load_z ((h.same 2 rfl).trans p791) ((h.far q790 b865.lt (by simp)).trans b865)) (f878.mono h.mono),
      fun s v h => does_val rfl rfl (x_load_z ((h.same 5 rfl).trans p884) ((h.far q883 b892.lt (by simp)).trans b892)) (f898.mono h.mono),
      fun s v h => does_call rfl rfl (x_call2 Try.call80) (zexact_a ((h.dep 0 rfl).az (N := N0) (len_neg la0)) ((h.dep 1 rfl).az (N := N1) lG) (by omega) (by omega) Ex3 Ex4),
      fun s v h => does_val rfl rfl (x_move) (h.dep 2 rfl),
      fun s v h => by obtain ⟨r0, r1, e, f0, f1⟩ := tup2_at (h.dep 3 rfl); exact does_val rfl rfl (x_ext e rfl) f0,
      fun s v h => by obtain ⟨r0, r1, e, f0, f1⟩ := tup2_at (h.dep 3 rfl); exact does_val rfl rfl (x_ext e rfl) f1,
      fun s v h => does_new rfl rfl x_alloc_z (okz _ _ _ _) rfl (.inl rfl),
      fun s v h => by obtain ⟨q, e1, e2, e3⟩ := new_at (h.dep 6 rfl); exact does_put_z rfl rfl e1 (h.dep 4 rfl).shape e3 (Nat.le_trans HB e2),
      fun s v h => does_val rfl rfl (x_assign) (h.dep 5 rfl), trivial⟩
  intro g899 ts v899 hts E899
  simp only [fillL, Nat.reduceAdd, List.setIfInBounds_toArray, List.set_cons_zero, List.set_cons_succ] at hts
  subst hts
  have T900 : Below w.heap.size w v899 := T861.trans E899.below
  have l901 : q790 < v860.heap.size := b865.lt
  have l902 : q796 < v860.heap.size := b866.lt
  have l903 : q803 < v860.heap.size := b867.lt
  have l904 : q883 < v860.heap.size := b892.lt
  have b905 : Bx v899 q790 t844 #[.bool x846, .slice A847 m848 c849] := (E899.far q790 b865.lt (by simp)).trans b865
  have b906 : Bx v899 q796 t852 #[.bool x854, .slice A855 m856 c857] := (E899.far q796 b866.lt (by simp)).trans b866
  have b907 : Bx v899 q803 29 #[.bool false, .slice none 0 0, .bool false, .slice none 0 0] := (E899.far q803 b867.lt (by simp)).trans b867
  have b908 : Bx v899 q883 t891 #[.bool x893, .slice A894 m895 c896] := (E899.far q883 b892.lt (by simp)).trans b892
  have f920 := (f879.mono E899.mono)
  have f924 := (f898.mono E899.mono)
  have f927 : Cz v899 (g899 4) (fl (-p) (Int.gcd (-p) (-q) : Int)) := E899.facts 4 (by decide)
  obtain ⟨q930, p931, l932, o933⟩ : ∃ q, g899 6 = .pointer (some ⟨q, 0, none⟩) ∧ v860.heap.size ≤ q ∧ OkB v899 q 2 := E899.facts 6 (by decide)
  have h934 : w.heap.size ≤ q930 := Nat.le_trans HB l932
  have n937 : q803 ≠ q930 := by omega
  obtain ⟨t939, x941, A942, m943, c944, e945, b940⟩ := put_info (E899.facts 7 (by decide)) p931 f927.shape
  have f946 : Cz v899 (.agg #[.bool x941, .slice A942 m943 c944]) (fl (-p) (Int.gcd (-p) (-q) : Int)) := f927.at e945.symm
  refine then_normal ?_
  refine wp_seq ?_
  have HB : w.heap.size ≤ v899.heap.size := T900.size
  refine wp_plan_seq [.val (.cz (-q)), .val (.cz (Int.gcd (-p) (-q) : Int)), .val (.tup2 (.cz (fl (-q) (Int.gcd (-p) (-q) : Int))) (.is (.int .i64 0))), .val (.tup2 (.cz (fl (-q) (Int.gcd (-p) (-q) : Int))) (.is (.int .i64 0))), .val (.cz (fl (-q) (Int.gcd (-p) (-q) : Int))), .val (.is (.int .i64 0)), .new 2 none, .put 8 30, .val (.is (.int .i64 0))] [] [] w.heap.size (by kernel_rfl) (by kernel_rfl) trivial HB ?_ ?_
  · exact ⟨fun s v h => does_val rfl rfl (x_load_z ((h.same 3 rfl).trans p797) ((h.far q796 b906.lt (by simp)).trans b906)) (f920.mono h.mono),
      fun s v h => does_val rfl rfl (x_load_z ((h.same 5 rfl).trans p884) ((h.far q883 b908.lt (by simp)).trans b908)) (f924.mono h.mono),
      fun s v h => does_call rfl rfl (x_call2 Try.call80) (zexact_a ((h.dep 0 rfl).az (N := N1) (len_neg la1)) ((h.dep 1 rfl).az (N := N1) lG) (by omega) (by omega) Ex3 Ex5),
      fun s v h => does_val rfl rfl (x_move) (h.dep 2 rfl),
      fun s v h => by obtain ⟨r0, r1, e, f0, f1⟩ := tup2_at (h.dep 3 rfl); exact does_val rfl rfl (x_ext e rfl) f0,
      fun s v h => by obtain ⟨r0, r1, e, f0, f1⟩ := tup2_at (h.dep 3 rfl); exact does_val rfl rfl (x_ext e rfl) f1,
      fun s v h => does_new rfl rfl x_alloc_z (okz _ _ _ _) rfl (.inl rfl),
      fun s v h => by obtain ⟨q, e1, e2, e3⟩ := new_at (h.dep 6 rfl); exact does_put_z rfl rfl e1 (h.dep 4 rfl).shape e3 (Nat.le_trans HB e2),
      fun s v h => does_val rfl rfl (x_assign) (h.dep 5 rfl), trivial⟩
  intro g947 ts v947 hts E947
  simp only [fillL, Nat.reduceAdd, List.setIfInBounds_toArray, List.set_cons_zero, List.set_cons_succ] at hts
  subst hts
  have T948 : Below w.heap.size w v947 := T900.trans E947.below
  have l949 : q790 < v899.heap.size := b905.lt
  have l950 : q796 < v899.heap.size := b906.lt
  have l951 : q803 < v899.heap.size := b907.lt
  have l952 : q883 < v899.heap.size := b908.lt
  have l953 : q930 < v899.heap.size := b940.lt
  have b954 : Bx v947 q790 t844 #[.bool x846, .slice A847 m848 c849] := (E947.far q790 b905.lt (by simp)).trans b905
  have b955 : Bx v947 q796 t852 #[.bool x854, .slice A855 m856 c857] := (E947.far q796 b906.lt (by simp)).trans b906
  have b956 : Bx v947 q803 29 #[.bool false, .slice none 0 0, .bool false, .slice none 0 0] := (E947.far q803 b907.lt (by simp)).trans b907
  have b957 : Bx v947 q883 t891 #[.bool x893, .slice A894 m895 c896] := (E947.far q883 b908.lt (by simp)).trans b908
  have b958 : Bx v947 q930 t939 #[.bool x941, .slice A942 m943 c944] := (E947.far q930 b940.lt (by simp)).trans b940
  have f978 := (f946.mono E947.mono)
  have f981 : Cz v947 (g947 4) (fl (-q) (Int.gcd (-p) (-q) : Int)) := E947.facts 4 (by decide)
  obtain ⟨q984, p985, l986, o987⟩ : ∃ q, g947 6 = .pointer (some ⟨q, 0, none⟩) ∧ v899.heap.size ≤ q ∧ OkB v947 q 2 := E947.facts 6 (by decide)
  have h988 : w.heap.size ≤ q984 := Nat.le_trans HB l986
  have n991 : q803 ≠ q984 := by omega
  obtain ⟨t994, x996, A997, m998, c999, e1000, b995⟩ := put_info (E947.facts 7 (by decide)) p985 f981.shape
  have f1001 : Cz v947 (.agg #[.bool x996, .slice A997 m998 c999]) (fl (-q) (Int.gcd (-p) (-q) : Int)) := f981.at e1000.symm
  refine then_normal ?_
  refine wp_seq ?_
  have HB : w.heap.size ≤ v947.heap.size := T948.size
  refine wp_plan_seq [.val (.cz (fl (-p) (Int.gcd (-p) (-q) : Int))), .val (.cz (fl (-q) (Int.gcd (-p) (-q) : Int))), .val (.pair (.cz (fl (-p) (Int.gcd (-p) (-q) : Int))) (.cz (fl (-q) (Int.gcd (-p) (-q) : Int)))), .put 4 34] [4] [q803] w.heap.size (by kernel_rfl) (by kernel_rfl) ⟨p804, b956.lt, (by simp), trivial⟩ HB ?_ ?_
  · exact ⟨fun s v h => does_val rfl rfl (x_load_z ((h.same 6 rfl).trans p931) ((h.far q930 b958.lt (nin1 n937.symm)).trans b958)) (f978.mono h.mono),
      fun s v h => does_val rfl rfl (x_load_z ((h.same 8 rfl).trans p985) ((h.far q984 b995.lt (nin1 n991.symm)).trans b995)) (f1001.mono h.mono),
      fun s v h => does_build_r2 rfl rfl (num_cz _) (num_cz _) (h.dep 0 rfl) (h.dep 1 rfl),
      fun s v h => does_put_r rfl rfl ((h.same 4 rfl).trans p804) (pair_shape (num_cz _) (num_cz _) (h.dep 2 rfl)) (h.mono.ok _ _ b956.ok4) h809, trivial⟩
  intro g1002 ts v1002 hts E1002
  simp only [fillL, Nat.reduceAdd, List.setIfInBounds_toArray, List.set_cons_zero, List.set_cons_succ] at hts
  subst hts
  have T1003 : Below w.heap.size w v1002 := T948.trans E1002.below
  have l1004 : q790 < v947.heap.size := b954.lt
  have l1005 : q796 < v947.heap.size := b955.lt
  have l1006 : q803 < v947.heap.size := b956.lt
  have l1007 : q883 < v947.heap.size := b957.lt
  have l1008 : q930 < v947.heap.size := b958.lt
  have l1009 : q984 < v947.heap.size := b995.lt
  have f1041 : ((.pair (.cz (fl (-p) (Int.gcd (-p) (-q) : Int))) (.cz (fl (-q) (Int.gcd (-p) (-q) : Int)))) : Known).p v1002 (g1002 2) := E1002.facts 2 (by decide)
  obtain ⟨t1042, x1044, A1045, m1046, c1047, x1048, A1049, m1050, c1051, e1052, b1043⟩ := put_info4 (E1002.facts 3 (by decide)) p804 (pair_shape (num_cz _) (num_cz _) f1041)
  have f1053 : ((.pair (.cz (fl (-p) (Int.gcd (-p) (-q) : Int))) (.cz (fl (-q) (Int.gcd (-p) (-q) : Int)))) : Known).p v1002 (.agg #[.bool x1044, .slice A1045 m1046 c1047, .bool x1048, .slice A1049 m1050 c1051]) := pair_at f1041 e1052.symm
  refine then_normal ?_
  refine wp_ret ?_
  exact bodyPost_ret (ret_r rfl p804 b1043) rfl ⟨_, rfl, (by have := f1053; rw [Ex1, Ex2] at this; exact this), T1003⟩

theorem qmade_k {w : World} {x : Value} {p : Int} {N0 : Nat} (h0 : Az N0 w x p) {y : Value} {q : Int} {N1 : Nat} (h1 : Az N1 w y q) (hN0 : N0 ≤ 1000000000) (hN1 : N1 ≤ 1000000000) (hq : q ≠ 0) : Calls Try.prog 44 #[x, y] w (Ret (.pair (.cz (rn p q)) (.cz (rd p q))) w) := by
  cases d : decide (q.sign < 0) with
  | false => exact qmade_p h0 h1 hN0 hN1 hq d
  | true => exact qmade_n h0 h1 hN0 hN1 hq d

set_option maxHeartbeats 4000000 in
set_option maxRecDepth 8000 in
theorem qmake_a {w : World} {x : Value} {p : Int} {N0 : Nat} (h0 : Az N0 w x p) {y : Value} {q : Int} {N1 : Nat} (h1 : Az N1 w y q) (hN0 : N0 ≤ 1000000000) (hN1 : N1 ≤ 1000000000) (hq : q ≠ 0) (d : (q.sign == 0) = false)  : Calls Try.prog 13 #[x, y] w (Ret (.tup2 (.pair (.cz (rn p q)) (.cz (rd p q))) (.is (.int .i64 0))) w) := by
  have la0 := h0.len
  obtain ⟨na0, A0, n0, c0, M0, rfl, hm0, hz0⟩ := h0.parts
  have la1 := h1.len
  obtain ⟨na1, A1, n1, c1, M1, rfl, hm1, hz1⟩ := h1.parts
  have T0 : Below w.heap.size w w := Below.refl _ _
  go_enter Try.func13, Try.ntmps13
  refine wp_seq ?_
  have HB : w.heap.size ≤ w.heap.size := T0.size
  refine wp_plan_seq [.new 2 (some (24, #[.bool na0, .slice A0 n0 c0])), .new 2 (some (24, #[.bool na1, .slice A1 n1 c1])), .new 4 (some (29, #[.bool false, .slice none 0 0, .bool false, .slice none 0 0])), .val (.is (.int .i64 0))] [] [] w.heap.size (by kernel_rfl) (by kernel_rfl) trivial HB ?_ ?_
  · exact ⟨fun s v h => does_new rfl rfl (x_box_z (h.same 0 rfl)) (okz _ _ _ _) rfl (.inr rfl),
      fun s v h => does_new rfl rfl (x_box_z (h.same 1 rfl)) (okz _ _ _ _) rfl (.inr rfl),
      fun s v h => does_new rfl rfl x_alloc_r (okr _ _ _ _ _ _ _ _) rfl (.inr rfl),
      fun s v h => does_val rfl rfl (x_assign) rfl, trivial⟩
  intro g1054 ts v1054 hts E1054
  simp only [fillL, Nat.reduceAdd, List.setIfInBounds_toArray, List.set_cons_zero, List.set_cons_succ] at hts
  subst hts
  have T1055 : Below w.heap.size w v1054 := T0.trans E1054.below
  have f1056 := (h0.mono E1054.mono)
  have f1058 := (h1.mono E1054.mono)
  obtain ⟨q1061, p1062, l1063, o1064, b1065⟩ : ∃ q, g1054 0 = .pointer (some ⟨q, 0, none⟩) ∧ w.heap.size ≤ q ∧ OkB v1054 q 2 ∧ Bx v1054 q 24 #[.bool na0, .slice A0 n0 c0] := E1054.facts 0 (by decide)
  have h1066 : w.heap.size ≤ q1061 := Nat.le_trans HB l1063
  obtain ⟨q1067, p1068, l1069, o1070, b1071⟩ : ∃ q, g1054 1 = .pointer (some ⟨q, 0, none⟩) ∧ w.heap.size ≤ q ∧ OkB v1054 q 2 ∧ Bx v1054 q 24 #[.bool na1, .slice A1 n1 c1] := E1054.facts 1 (by decide)
  have h1072 : w.heap.size ≤ q1067 := Nat.le_trans HB l1069
  obtain ⟨q1074, p1075, l1076, o1077, b1078⟩ : ∃ q, g1054 2 = .pointer (some ⟨q, 0, none⟩) ∧ w.heap.size ≤ q ∧ OkB v1054 q 4 ∧ Bx v1054 q 29 #[.bool false, .slice none 0 0, .bool false, .slice none 0 0] := E1054.facts 2 (by decide)
  have h1080 : w.heap.size ≤ q1074 := Nat.le_trans HB l1076
  have n1081 : q1061 ≠ q1074 := E1054.apart 0 2 (by decide) (by decide) (by decide) ⟨_, _, _, rfl⟩ ⟨_, _, _, rfl⟩ none _ none _ p1062 p1075
  have n1082 : q1067 ≠ q1074 := E1054.apart 1 2 (by decide) (by decide) (by decide) ⟨_, _, _, rfl⟩ ⟨_, _, _, rfl⟩ none _ none _ p1068 p1075
  refine then_normal ?_
  refine wp_seq ?_
  refine wp_seq ?_
  have HB : w.heap.size ≤ v1054.heap.size := T1055.size
  refine wp_plan_seq [.val (.az N1 q), .val (.is (.int .i64 q.sign)), .val (.is (.bool false))] [] [] w.heap.size (by kernel_rfl) (by kernel_rfl) trivial HB ?_ ?_
  · exact ⟨fun s v h => does_val rfl rfl (x_load_z ((h.same 3 rfl).trans p1068) ((h.far q1067 b1071.lt (by simp)).trans b1071)) (f1058.mono h.mono),
      fun s v h => does_call rfl rfl (x_call1 Try.call43) (sign_k (h.dep 0 rfl)),
      fun s v h => does_val rfl rfl (x_eql_int (h.dep 1 rfl) rfl) (congrArg Value.bool d), trivial⟩
  intro g1083 ts v1083 hts E1083
  simp only [fillL, Nat.reduceAdd, List.setIfInBounds_toArray, List.set_cons_zero, List.set_cons_succ] at hts
  subst hts
  have T1084 : Below w.heap.size w v1083 := T1055.trans E1083.below
  have l1085 : q1061 < v1054.heap.size := b1065.lt
  have l1086 : q1067 < v1054.heap.size := b1071.lt
  have l1087 : q1074 < v1054.heap.size := b1078.lt
  have b1088 : Bx v1083 q1061 24 #[.bool na0, .slice A0 n0 c0] := (E1083.far q1061 b1065.lt (by simp)).trans b1065
  have b1089 : Bx v1083 q1067 24 #[.bool na1, .slice A1 n1 c1] := (E1083.far q1067 b1071.lt (by simp)).trans b1071
  have b1090 : Bx v1083 q1074 29 #[.bool false, .slice none 0 0, .bool false, .slice none 0 0] := (E1083.far q1074 b1078.lt (by simp)).trans b1078
  have f1091 := (f1056.mono E1083.mono)
  have f1093 := (f1058.mono E1083.mono)
  have e1098 : g1083 2 = (.bool false) := E1083.facts 2 (by decide)
  refine then_normal ?_
  refine wp_cond_false e1098 ?_
  refine wp_skip ?_
  refine then_normal ?_
  refine wp_seq ?_
  have HB : w.heap.size ≤ v1083.heap.size := T1084.size
  refine wp_plan_seq [.val (.az N0 p), .val (.az N1 q), .val (.pair (.cz (rn p q)) (.cz (rd p q))), .put 4 12, .val (.is (.int .i64 0))] [4] [q1074] w.heap.size (by kernel_rfl) (by kernel_rfl) ⟨p1075, b1090.lt, (by simp), trivial⟩ HB ?_ ?_
  · exact ⟨fun s v h => does_val rfl rfl (x_load_z ((h.same 2 rfl).trans p1062) ((h.far q1061 b1088.lt (nin1 n1081)).trans b1088)) (f1091.mono h.mono),
      fun s v h => does_val rfl rfl (x_load_z ((h.same 3 rfl).trans p1068) ((h.far q1067 b1089.lt (nin1 n1082)).trans b1089)) (f1093.mono h.mono),
      fun s v h => does_call rfl rfl (x_call2 Try.call44) (qmade_k (h.dep 0 rfl) (h.dep 1 rfl) (by omega) (by omega) hq),
      fun s v h => does_put_r rfl rfl ((h.same 4 rfl).trans p1075) (pair_shape (num_cz _) (num_cz _) (h.dep 2 rfl)) (h.mono.ok _ _ b1090.ok4) h1080,
      fun s v h => does_val rfl rfl (x_assign) rfl, trivial⟩
  intro g1099 ts v1099 hts E1099
  simp only [fillL, Nat.reduceAdd, List.setIfInBounds_toArray, List.set_cons_zero, List.set_cons_succ] at hts
  subst hts
  have T1100 : Below w.heap.size w v1099 := T1084.trans E1099.below
  have l1101 : q1061 < v1083.heap.size := b1088.lt
  have l1102 : q1067 < v1083.heap.size := b1089.lt
  have l1103 : q1074 < v1083.heap.size := b1090.lt
  have f1114 : ((.pair (.cz (rn p q)) (.cz (rd p q))) : Known).p v1099 (g1099 2) := E1099.facts 2 (by decide)
  have e1115 : g1099 4 = (.int .i64 0) := E1099.facts 4 (by decide)
  obtain ⟨t1116, x1118, A1119, m1120, c1121, x1122, A1123, m1124, c1125, e1126, b1117⟩ := put_info4 (E1099.facts 3 (by decide)) p1075 (pair_shape (num_cz _) (num_cz _) f1114)
  have f1127 : ((.pair (.cz (rn p q)) (.cz (rd p q))) : Known).p v1099 (.agg #[.bool x1118, .slice A1119 m1120 c1121, .bool x1122, .slice A1123 m1124 c1125]) := pair_at f1114 e1126.symm
  refine then_normal ?_
  refine wp_ret ?_
  exact bodyPost_ret (ret_rt rfl p1075 b1117) rfl ⟨_, rfl, ⟨_, _, rfl, f1127, e1115⟩, T1100⟩

end Go.Proofs.Ytdmahjbjlppeaaa
