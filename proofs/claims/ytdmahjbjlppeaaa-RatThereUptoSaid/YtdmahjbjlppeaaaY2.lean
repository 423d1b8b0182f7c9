
/- Floors. -/
import Derived.Test.YtdmahjbjlppeaaaY1
import Derived.Test.YtdmahjbjlppeaaaA4
namespace Go.Proofs.Ytdmahjbjlppeaaa
open Go.RowKit

set_option maxHeartbeats 4000000 in
set_option maxRecDepth 8000 in
theorem zfloor_a {w : World} {na0 : Bool} {A0 : Option Addr} {n0 c0 M0 N0 : Nat} (hm0 : Nz N0 w (.slice A0 n0 c0) M0) {na1 : Bool} {A1 : Option Addr} {n1 c1 M1 N1 : Nat} (hm1 : Nz N1 w (.slice A1 n1 c1) M1) (hN0 : N0 ≤ 35184372088820) (hb : 0 < M1) (d1 : ((zof na0 (M0 % M1)).sign == 0) = true)  : Calls Try.prog 42 #[.agg #[.bool na0, .slice A0 n0 c0], .agg #[.bool na1, .slice A1 n1 c1]] w (Ret (.tup3 (.cz (zof (!(na0 == na1)) (M0 / M1))) (.cz (zof na0 (M0 % M1))) (.is (.int .i64 0))) w) := by
  have ha0 : Az N0 w (.agg #[.bool na0, .slice A0 n0 c0]) (zof na0 M0) := Az.of_nz hm0
  have la0 := ha0.len
  have ha1 : Az N1 w (.agg #[.bool na1, .slice A1 n1 c1]) (zof na1 M1) := Az.of_nz hm1
  have la1 := ha1.len
  have T0 : Below w.heap.size w w := Below.refl _ _
  go_enter Try.func42, Try.ntmps42
  refine wp_seq ?_
  have HB : w.heap.size ≤ w.heap.size := T0.size
  refine wp_plan_seq [.new 2 (some (24, #[.bool na0, .slice A0 n0 c0])), .new 2 (some (24, #[.bool na1, .slice A1 n1 c1])), .new 2 (some (24, #[.bool false, .slice none 0 0])), .new 2 (some (24, #[.bool false, .slice none 0 0])), .val (.is (.int .i64 0))] [] [] w.heap.size (by kernel_rfl) (by kernel_rfl) trivial HB ?_ ?_
  · exact ⟨fun s v h => does_new rfl rfl (x_box_z (h.same 0 rfl)) (okz _ _ _ _) rfl (.inr rfl),
      fun s v h => does_new rfl rfl (x_box_z (h.same 1 rfl)) (okz _ _ _ _) rfl (.inr rfl),
      fun s v h => does_new rfl rfl x_alloc_z (okz _ _ _ _) rfl (.inr rfl),
      fun s v h => does_new rfl rfl x_alloc_z (okz _ _ _ _) rfl (.inr rfl),
      fun s v h => does_val rfl rfl (x_assign) rfl, trivial⟩
  intro g1 ts v1 hts E1
  simp only [fillL, Nat.reduceAdd, List.setIfInBounds_toArray, List.set_cons_zero, List.set_cons_succ] at hts
  subst hts
  have T2 : Below w.heap.size w v1 := T0.trans E1.below
  have f4 := hm0.mono E1.mono
  have f6 := hm1.mono E1.mono
  obtain ⟨q8, p9, l10, o11, b12⟩ : ∃ q, g1 0 = .pointer (some ⟨q, 0, none⟩) ∧ w.heap.size ≤ q ∧ OkB v1 q 2 ∧ Bx v1 q 24 #[.bool na0, .slice A0 n0 c0] := E1.facts 0 (by decide)
  have h13 : w.heap.size ≤ q8 := Nat.le_trans HB l10
  obtain ⟨q14, p15, l16, o17, b18⟩ : ∃ q, g1 1 = .pointer (some ⟨q, 0, none⟩) ∧ w.heap.size ≤ q ∧ OkB v1 q 2 ∧ Bx v1 q 24 #[.bool na1, .slice A1 n1 c1] := E1.facts 1 (by decide)
  have h19 : w.heap.size ≤ q14 := Nat.le_trans HB l16
  obtain ⟨q21, p22, l23, o24, b25⟩ : ∃ q, g1 2 = .pointer (some ⟨q, 0, none⟩) ∧ w.heap.size ≤ q ∧ OkB v1 q 2 ∧ Bx v1 q 24 #[.bool false, .slice none 0 0] := E1.facts 2 (by decide)
  have h27 : w.heap.size ≤ q21 := Nat.le_trans HB l23
  obtain ⟨q30, p31, l32, o33, b34⟩ : ∃ q, g1 3 = .pointer (some ⟨q, 0, none⟩) ∧ w.heap.size ≤ q ∧ OkB v1 q 2 ∧ Bx v1 q 24 #[.bool false, .slice none 0 0] := E1.facts 3 (by decide)
  have h36 : w.heap.size ≤ q30 := Nat.le_trans HB l32
  have n39 : q21 ≠ q30 := E1.apart 2 3 (by decide) (by decide) (by decide) ⟨_, _, _, rfl⟩ ⟨_, _, _, rfl⟩ none _ none _ p22 p31
  refine then_normal ?_
  refine wp_seq ?_
  have HB : w.heap.size ≤ v1.heap.size := T2.size
  refine wp_plan_seq [.val (.is (.pointer (some ⟨q8, 1, none⟩))), .val (.nz N0 M0), .val (.is (.pointer (some ⟨q14, 1, none⟩))), .val (.nz N1 M1), .val (.tup3 (.nz N0 (M0 / M1)) (.nz N0 (M0 % M1)) (.is (.int .i64 0))), .val (.tup3 (.nz N0 (M0 / M1)) (.nz N0 (M0 % M1)) (.is (.int .i64 0))), .val (.nz N0 (M0 / M1)), .val (.nz N0 (M0 % M1)), .val (.is (.int .i64 0)), .val (.nz N0 (M0 / M1)), .val (.nz N0 (M0 % M1)), .val (.is (.int .i64 0))] [] [] w.heap.size (by kernel_rfl) (by kernel_rfl) trivial HB ?_ ?_
  · exact ⟨fun s v h => does_val rfl rfl (x_fld (by decide) ((h.same 2 rfl).trans p9)) rfl,
      fun s v h => does_val rfl rfl (x_load_s (h.dep 0 rfl) ((h.far q8 b12.lt (by simp)).trans b12)) (f4.mono h.mono),
      fun s v h => does_val rfl rfl (x_fld (by decide) ((h.same 3 rfl).trans p15)) rfl,
      fun s v h => does_val rfl rfl (x_load_s (h.dep 2 rfl) ((h.far q14 b18.lt (by simp)).trans b18)) (f6.mono h.mono),
      fun s v h => does_call rfl rfl (x_call2 Try.call75) (ndiv_k (h.dep 1 rfl) (h.dep 3 rfl) (by omega) (by omega)),
      fun s v h => does_val rfl rfl (x_move) (h.dep 4 rfl),
      fun s v h => by obtain ⟨r0, r1, r2, e, f0, f1, f2⟩ := tup3_at (h.dep 5 rfl); exact does_val rfl rfl (x_ext e rfl) f0,
      fun s v h => by obtain ⟨r0, r1, r2, e, f0, f1, f2⟩ := tup3_at (h.dep 5 rfl); exact does_val rfl rfl (x_ext e rfl) f1,
      fun s v h => by obtain ⟨r0, r1, r2, e, f0, f1, f2⟩ := tup3_at (h.dep 5 rfl); exact does_val rfl rfl (x_ext e rfl) f2,
      fun s v h => does_val rfl rfl (x_assign) (h.dep 6 rfl),
      fun s v h => does_val rfl rfl (x_assign) (h.dep 7 rfl),
      fun s v h => does_val rfl rfl (x_assign) (h.dep 8 rfl), trivial⟩
  intro g40 ts v40 hts E40
  simp only [fillL, Nat.reduceAdd, List.setIfInBounds_toArray, List.set_cons_zero, List.set_cons_succ] at hts
  subst hts
  have T41 : Below w.heap.size w v40 := T2.trans E40.below
  have l42 : q8 < v1.heap.size := b12.lt
  have l43 : q14 < v1.heap.size := b18.lt
  have l44 : q21 < v1.heap.size := b25.lt
  have l45 : q30 < v1.heap.size := b34.lt
  have b46 : Bx v40 q8 24 #[.bool na0, .slice A0 n0 c0] := (E40.far q8 b12.lt (by simp)).trans b12
  have b47 : Bx v40 q14 24 #[.bool na1, .slice A1 n1 c1] := (E40.far q14 b18.lt (by simp)).trans b18
  have b48 : Bx v40 q21 24 #[.bool false, .slice none 0 0] := (E40.far q21 b25.lt (by simp)).trans b25
  have b49 : Bx v40 q30 24 #[.bool false, .slice none 0 0] := (E40.far q30 b34.lt (by simp)).trans b34
  have f61 : Nz N0 v40 (g40 9) (M0 / M1) := E40.facts 9 (by decide)
  have f62 : Nz N0 v40 (g40 10) (M0 % M1) := E40.facts 10 (by decide)
  have e63 : g40 11 = (.int .i64 0) := E40.facts 11 (by decide)
  refine then_normal ?_
  refine wp_seq ?_
  refine wp_seq ?_
  have HB : w.heap.size ≤ v40.heap.size := T41.size
  refine wp_plan_seq [.val (.is (.int .i64 0)), .val (.is (.bool false))] [] [] w.heap.size (by kernel_rfl) (by kernel_rfl) trivial HB ?_ ?_
  · exact ⟨fun s v h => does_val rfl rfl (x_move) ((h.same 9 rfl).trans e63),
      fun s v h => does_val rfl rfl (x_neq_err (h.dep 0 rfl) rfl) rfl, trivial⟩
  intro g64 ts v64 hts E64
  simp only [fillL, Nat.reduceAdd, List.setIfInBounds_toArray, List.set_cons_zero, List.set_cons_succ] at hts
  subst hts
  have T65 : Below w.heap.size w v64 := T41.trans E64.below
  have l66 : q8 < v40.heap.size := b46.lt
  have l67 : q14 < v40.heap.size := b47.lt
  have l68 : q21 < v40.heap.size := b48.lt
  have l69 : q30 < v40.heap.size := b49.lt
  have b70 : Bx v64 q8 24 #[.bool na0, .slice A0 n0 c0] := (E64.far q8 b46.lt (by simp)).trans b46
  have b71 : Bx v64 q14 24 #[.bool na1, .slice A1 n1 c1] := (E64.far q14 b47.lt (by simp)).trans b47
  have b72 : Bx v64 q21 24 #[.bool false, .slice none 0 0] := (E64.far q21 b48.lt (by simp)).trans b48
  have b73 : Bx v64 q30 24 #[.bool false, .slice none 0 0] := (E64.far q30 b49.lt (by simp)).trans b49
  have f84 := f61.mono E64.mono
  have f85 := f62.mono E64.mono
  have e87 : g64 1 = (.bool false) := E64.facts 1 (by decide)
  refine then_normal ?_
  refine wp_cond_false e87 ?_
  refine wp_skip ?_
  refine then_normal ?_
  refine wp_seq ?_
  have HB : w.heap.size ≤ v64.heap.size := T65.size
  refine wp_plan_any [.val (.is (.pointer (some ⟨q8, 0, none⟩))), .val (.is (.bool na0)), .val (.is (.pointer (some ⟨q14, 0, none⟩))), .val (.is (.bool na1)), .val (.is (.bool (!(na0 == na1)))), .val (.nz N0 (M0 / M1)), .val (.cz (zof (!(na0 == na1)) (M0 / M1))), .val (.is (.pointer (some ⟨q8, 0, none⟩))), .val (.is (.bool na0)), .val (.nz N0 (M0 % M1)), .val (.cz (zof na0 (M0 % M1))), .new 2 none, .new 2 none, .put 10 31, .put 11 35] [] [] w.heap.size (by kernel_rfl) (by kernel_rfl) (by kernel_rfl) trivial HB ?_ ?_
  · exact ⟨fun s v h => does_val rfl rfl (x_fld (by decide) ((h.same 2 rfl).trans p9)) rfl,
      fun s v h => does_val rfl rfl (x_load_b (h.dep 0 rfl) ((h.far q8 b70.lt (by simp)).trans b70)) rfl,
      fun s v h => does_val rfl rfl (x_fld (by decide) ((h.same 3 rfl).trans p15)) rfl,
      fun s v h => does_val rfl rfl (x_load_b (h.dep 2 rfl) ((h.far q14 b71.lt (by simp)).trans b71)) rfl,
      fun s v h => does_val rfl rfl (x_neq_bool (h.dep 1 rfl) (h.dep 3 rfl)) rfl,
      fun s v h => does_val rfl rfl (x_move) ((f84.mono ((Mono.drew _).trans h.mono)).at (h.same 7 rfl)),
      fun s v h => does_call rfl rfl (x_call2 Try.call76) (zmade_k (h.dep 4 rfl) (h.dep 5 rfl)),
      fun s v h => does_val rfl rfl (x_fld (by decide) ((h.same 2 rfl).trans p9)) rfl,
      fun s v h => does_val rfl rfl (x_load_b (h.dep 7 rfl) ((h.far q8 b70.lt (by simp)).trans b70)) rfl,
      fun s v h => does_val rfl rfl (x_move) ((f85.mono ((Mono.drew _).trans h.mono)).at (h.same 8 rfl)),
      fun s v h => does_call rfl rfl (x_call2 Try.call76) (zmade_k (h.dep 8 rfl) (h.dep 9 rfl)),
      fun s v h => does_new rfl rfl x_alloc_z (okz _ _ _ _) rfl (.inl rfl),
      fun s v h => does_new rfl rfl x_alloc_z (okz _ _ _ _) rfl (.inl rfl),
      fun s v h => by obtain ⟨q, e1, e2, e3⟩ := new_at (h.dep 11 rfl); exact does_put_z rfl rfl e1 (h.dep 6 rfl).shape e3 (Nat.le_trans HB e2),
      fun s v h => by obtain ⟨q, e1, e2, e3⟩ := new_at (h.dep 12 rfl); exact does_put_z rfl rfl e1 (h.dep 10 rfl).shape e3 (Nat.le_trans HB e2), trivial⟩
  intro g88 ts v88 hts E88
  simp only [fillL, Nat.reduceAdd, List.setIfInBounds_toArray, List.set_cons_zero, List.set_cons_succ] at hts
  subst hts
  have T89 : Below w.heap.size w v88 := (below_toDrew T65).trans E88.below
  have l90 : q8 < v64.heap.size := b70.lt
  have l91 : q14 < v64.heap.size := b71.lt
  have l92 : q21 < v64.heap.size := b72.lt
  have l93 : q30 < v64.heap.size := b73.lt
  have b94 : Bx v88 q8 24 #[.bool na0, .slice A0 n0 c0] := (E88.far q8 b70.lt (by simp)).trans b70
  have b95 : Bx v88 q14 24 #[.bool na1, .slice A1 n1 c1] := (E88.far q14 b71.lt (by simp)).trans b71
  have b96 : Bx v88 q21 24 #[.bool false, .slice none 0 0] := (E88.far q21 b72.lt (by simp)).trans b72
  have b97 : Bx v88 q30 24 #[.bool false, .slice none 0 0] := (E88.far q30 b73.lt (by simp)).trans b73
  have f114 : Cz v88 (g88 6) (zof (!(na0 == na1)) (M0 / M1)) := E88.facts 6 (by decide)
  have f117 : Cz v88 (g88 10) (zof na0 (M0 % M1)) := E88.facts 10 (by decide)
  obtain ⟨q118, p119, l120, o121⟩ : ∃ q, g88 11 = .pointer (some ⟨q, 0, none⟩) ∧ v64.heap.size ≤ q ∧ OkB v88 q 2 := E88.facts 11 (by decide)
  have h122 : w.heap.size ≤ q118 := Nat.le_trans HB l120
  have n125 : q21 ≠ q118 := by omega
  have n126 : q30 ≠ q118 := by omega
  obtain ⟨q127, p128, l129, o130⟩ : ∃ q, g88 12 = .pointer (some ⟨q, 0, none⟩) ∧ v64.heap.size ≤ q ∧ OkB v88 q 2 := E88.facts 12 (by decide)
  have h131 : w.heap.size ≤ q127 := Nat.le_trans HB l129
  have n134 : q21 ≠ q127 := by omega
  have n135 : q30 ≠ q127 := by omega
  obtain ⟨t137, x139, A140, m141, c142, e143, b138⟩ := put_info (E88.facts 13 (by decide)) p119 f114.shape
  have f144 : Cz v88 (.agg #[.bool x139, .slice A140 m141 c142]) (zof (!(na0 == na1)) (M0 / M1)) := f114.at e143.symm
  obtain ⟨t145, x147, A148, m149, c150, e151, b146⟩ := put_info (E88.facts 14 (by decide)) p128 f117.shape
  have f152 : Cz v88 (.agg #[.bool x147, .slice A148 m149 c150]) (zof na0 (M0 % M1)) := f117.at e151.symm
  refine then_normal ?_
  refine wp_seq ?_
  refine wp_seq ?_
  have HB : w.heap.size ≤ v88.heap.size := T89.size
  refine wp_plan_any [.val (.cz (zof na0 (M0 % M1))), .val (.is (.int .i64 (zof na0 (M0 % M1)).sign)), .val (.is (.bool false)), .val (.is (.bool false)), .val (.is undef), .val (.is undef), .val (.is undef), .val (.is undef), .val (.is undef), .val (.is (.bool false))] [] [] w.heap.size (by kernel_rfl) (by kernel_rfl) (by kernel_rfl) trivial HB ?_ ?_
  · exact ⟨fun s v h => does_val rfl rfl (x_load_z ((h.same 11 rfl).trans p128) ((h.far q127 b146.lt (by simp)).trans b146)) (f152.mono ((Mono.drew _).trans h.mono)),
      fun s v h => does_call rfl rfl (x_call1 Try.call43) (sign_k ((h.dep 0 rfl).az (N := N0) (by rw [zof_abs]; exact Nat.le_trans (dl_le (Nat.mod_le M0 M1)) hm0.len))),
      fun s v h => does_val rfl rfl (x_neq_int (h.dep 1 rfl) rfl) (congrArg (fun x => Value.bool (!x)) d1),
      fun s v h => does_val rfl rfl (x_move) (h.dep 2 rfl),
      fun s v h => does_skip rfl (wanted_by (b := false) (want := true) rfl rfl (h.dep 3 rfl)) rfl,
      fun s v h => does_skip rfl (wanted_by (b := false) (want := true) rfl rfl (h.dep 3 rfl)) rfl,
      fun s v h => does_skip rfl (wanted_by (b := false) (want := true) rfl rfl (h.dep 3 rfl)) rfl,
      fun s v h => does_skip rfl (wanted_by (b := false) (want := true) rfl rfl (h.dep 3 rfl)) rfl,
      fun s v h => does_skip rfl (wanted_by (b := false) (want := true) rfl rfl (h.dep 3 rfl)) rfl,
      fun s v h => does_val rfl rfl (x_pick (h.dep 3 rfl)) rfl, trivial⟩
  intro g153 ts v153 hts E153
  simp only [fillL, Nat.reduceAdd, List.setIfInBounds_toArray, List.set_cons_zero, List.set_cons_succ] at hts
  subst hts
  have T154 : Below w.heap.size w v153 := (below_toDrew T89).trans E153.below
  have l155 : q8 < v88.heap.size := b94.lt
  have l156 : q14 < v88.heap.size := b95.lt
  have l157 : q21 < v88.heap.size := b96.lt
  have l158 : q30 < v88.heap.size := b97.lt
  have l159 : q118 < v88.heap.size := b138.lt
  have l160 : q127 < v88.heap.size := b146.lt
  have b161 : Bx v153 q8 24 #[.bool na0, .slice A0 n0 c0] := (E153.far q8 b94.lt (by simp)).trans b94
  have b162 : Bx v153 q14 24 #[.bool na1, .slice A1 n1 c1] := (E153.far q14 b95.lt (by simp)).trans b95
  have b163 : Bx v153 q21 24 #[.bool false, .slice none 0 0] := (E153.far q21 b96.lt (by simp)).trans b96
  have b164 : Bx v153 q30 24 #[.bool false, .slice none 0 0] := (E153.far q30 b97.lt (by simp)).trans b97
  have b165 : Bx v153 q118 t137 #[.bool x139, .slice A140 m141 c142] := (E153.far q118 b138.lt (by simp)).trans b138
  have b166 : Bx v153 q127 t145 #[.bool x147, .slice A148 m149 c150] := (E153.far q127 b146.lt (by simp)).trans b146
  have f183 := f144.mono ((Mono.drew _).trans E153.mono)
  have f184 := f152.mono ((Mono.drew _).trans E153.mono)
  have e194 : g153 9 = (.bool false) := E153.facts 9 (by decide)
  refine then_normal ?_
  refine wp_cond_false e194 ?_
  refine wp_skip ?_
  refine then_normal ?_
  refine wp_seq ?_
  have HB : w.heap.size ≤ v153.heap.size := T154.size
  refine wp_plan_any [.val (.cz (zof (!(na0 == na1)) (M0 / M1))), .val (.cz (zof na0 (M0 % M1))), .put 4 52, .put 5 53, .val (.is (.int .i64 0))] [4, 5] [q21, q30] w.heap.size (by kernel_rfl) (by kernel_rfl) (by kernel_rfl) ⟨p22, b163.lt, (nin1 n39), ⟨p31, b164.lt, (by simp), trivial⟩⟩ HB ?_ ?_
  · exact ⟨fun s v h => does_val rfl rfl (x_load_z ((h.same 10 rfl).trans p119) ((h.far q118 b165.lt (nin2 n125.symm n126.symm)).trans b165)) (f183.mono ((Mono.drew _).trans h.mono)),
      fun s v h => does_val rfl rfl (x_load_z ((h.same 11 rfl).trans p128) ((h.far q127 b166.lt (nin2 n134.symm n135.symm)).trans b166)) (f184.mono ((Mono.drew _).trans h.mono)),
      fun s v h => does_put_z rfl rfl ((h.same 4 rfl).trans p22) (h.dep 0 rfl).shape (((Mono.drew _).trans h.mono).ok _ _ b163.ok2) h27,
      fun s v h => does_put_z rfl rfl ((h.same 5 rfl).trans p31) (h.dep 1 rfl).shape (((Mono.drew _).trans h.mono).ok _ _ b164.ok2) h36,
      fun s v h => does_val rfl rfl (x_assign) rfl, trivial⟩
  intro g195 ts v195 hts E195
  simp only [fillL, Nat.reduceAdd, List.setIfInBounds_toArray, List.set_cons_zero, List.set_cons_succ] at hts
  subst hts
  have T196 : Below w.heap.size w v195 := (below_toDrew T154).trans E195.below
  have l197 : q8 < v153.heap.size := b161.lt
  have l198 : q14 < v153.heap.size := b162.lt
  have l199 : q21 < v153.heap.size := b163.lt
  have l200 : q30 < v153.heap.size := b164.lt
  have l201 : q118 < v153.heap.size := b165.lt
  have l202 : q127 < v153.heap.size := b166.lt
  have f226 : Cz v195 (g195 0) (zof (!(na0 == na1)) (M0 / M1)) := E195.facts 0 (by decide)
  have f227 : Cz v195 (g195 1) (zof na0 (M0 % M1)) := E195.facts 1 (by decide)
  have e228 : g195 4 = (.int .i64 0) := E195.facts 4 (by decide)
  obtain ⟨t229, x231, A232, m233, c234, e235, b230⟩ := put_info (E195.facts 2 (by decide)) p22 f226.shape
  have f236 : Cz v195 (.agg #[.bool x231, .slice A232 m233 c234]) (zof (!(na0 == na1)) (M0 / M1)) := f226.at e235.symm
  obtain ⟨t237, x239, A240, m241, c242, e243, b238⟩ := put_info (E195.facts 3 (by decide)) p31 f227.shape
  have f244 : Cz v195 (.agg #[.bool x239, .slice A240 m241 c242]) (zof na0 (M0 % M1)) := f227.at e243.symm
  refine then_normal ?_
  refine wp_ret ?_
  exact bodyPost_ret (ret_cct rfl p22 b230 p31 b238) rfl ⟨_, rfl, ⟨_, _, _, rfl, f236, f244, e228⟩, T196⟩

set_option maxHeartbeats 4000000 in
set_option maxRecDepth 8000 in
theorem zfloor_b {w : World} {na0 : Bool} {A0 : Option Addr} {n0 c0 M0 N0 : Nat} (hm0 : Nz N0 w (.slice A0 n0 c0) M0) {na1 : Bool} {A1 : Option Addr} {n1 c1 M1 N1 : Nat} (hm1 : Nz N1 w (.slice A1 n1 c1) M1) (hN0 : N0 ≤ 35184372088820) (hb : 0 < M1) (d1 : ((zof na0 (M0 % M1)).sign == 0) = false) (d2 : ((zof na0 (M0 % M1)).sign == (zof na1 M1).sign) = true)  : Calls Try.prog 42 #[.agg #[.bool na0, .slice A0 n0 c0], .agg #[.bool na1, .slice A1 n1 c1]] w (Ret (.tup3 (.cz (zof (!(na0 == na1)) (M0 / M1))) (.cz (zof na0 (M0 % M1))) (.is (.int .i64 0))) w) := by
  have ha0 : Az N0 w (.agg #[.bool na0, .slice A0 n0 c0]) (zof na0 M0) := Az.of_nz hm0
  have la0 := ha0.len
  have ha1 : Az N1 w (.agg #[.bool na1, .slice A1 n1 c1]) (zof na1 M1) := Az.of_nz hm1
  have la1 := ha1.len
  have T0 : Below w.heap.size w w := Below.refl _ _
  go_enter Try.func42, Try.ntmps42
  refine wp_seq ?_
  have HB : w.heap.size ≤ w.heap.size := T0.size
  refine wp_plan_seq [.new 2 (some (24, #[.bool na0, .slice A0 n0 c0])), .new 2 (some (24, #[.bool na1, .slice A1 n1 c1])), .new 2 (some (24, #[.bool false, .slice none 0 0])), .new 2 (some (24, #[.bool false, .slice none 0 0])), .val (.is (.int .i64 0))] [] [] w.heap.size (by kernel_rfl) (by kernel_rfl) trivial HB ?_ ?_
  · exact ⟨fun s v h => does_new rfl rfl (x_box_z (h.same 0 rfl)) (okz _ _ _ _) rfl (.inr rfl),
      fun s v h => does_new rfl rfl (x_box_z (h.same 1 rfl)) (okz _ _ _ _) rfl (.inr rfl),
      fun s v h => does_new rfl rfl x_alloc_z (okz _ _ _ _) rfl (.inr rfl),
      fun s v h => does_new rfl rfl x_alloc_z (okz _ _ _ _) rfl (.inr rfl),
      fun s v h => does_val rfl rfl (x_assign) rfl, trivial⟩
  intro g245 ts v245 hts E245
  simp only [fillL, Nat.reduceAdd, List.setIfInBounds_toArray, List.set_cons_zero, List.set_cons_succ] at hts
  subst hts
  have T246 : Below w.heap.size w v245 := T0.trans E245.below
  have f248 := hm0.mono E245.mono
  have f249 := ha1.mono E245.mono
  have f250 := hm1.mono E245.mono
  obtain ⟨q252, p253, l254, o255, b256⟩ : ∃ q, g245 0 = .pointer (some ⟨q, 0, none⟩) ∧ w.heap.size ≤ q ∧ OkB v245 q 2 ∧ Bx v245 q 24 #[.bool na0, .slice A0 n0 c0] := E245.facts 0 (by decide)
  have h257 : w.heap.size ≤ q252 := Nat.le_trans HB l254
  obtain ⟨q258, p259, l260, o261, b262⟩ : ∃ q, g245 1 = .pointer (some ⟨q, 0, none⟩) ∧ w.heap.size ≤ q ∧ OkB v245 q 2 ∧ Bx v245 q 24 #[.bool na1, .slice A1 n1 c1] := E245.facts 1 (by decide)
  have h263 : w.heap.size ≤ q258 := Nat.le_trans HB l260
  obtain ⟨q265, p266, l267, o268, b269⟩ : ∃ q, g245 2 = .pointer (some ⟨q, 0, none⟩) ∧ w.heap.size ≤ q ∧ OkB v245 q 2 ∧ Bx v245 q 24 #[.bool false, .slice none 0 0] := E245.facts 2 (by decide)
  have h271 : w.heap.size ≤ q265 := Nat.le_trans HB l267
  obtain ⟨q274, p275, l276, o277, b278⟩ : ∃ q, g245 3 = .pointer (some ⟨q, 0, none⟩) ∧ w.heap.size ≤ q ∧ OkB v245 q 2 ∧ Bx v245 q 24 #[.bool false, .slice none 0 0] := E245.facts 3 (by decide)
  have h280 : w.heap.size ≤ q274 := Nat.le_trans HB l276
  have n283 : q265 ≠ q274 := E245.apart 2 3 (by decide) (by decide) (by decide) ⟨_, _, _, rfl⟩ ⟨_, _, _, rfl⟩ none _ none _ p266 p275
  refine then_normal ?_
  refine wp_seq ?_
  have HB : w.heap.size ≤ v245.heap.size := T246.size
  refine wp_plan_seq [.val (.is (.pointer (some ⟨q252, 1, none⟩))), .val (.nz N0 M0), .val (.is (.pointer (some ⟨q258, 1, none⟩))), .val (.nz N1 M1), .val (.tup3 (.nz N0 (M0 / M1)) (.nz N0 (M0 % M1)) (.is (.int .i64 0))), .val (.tup3 (.nz N0 (M0 / M1)) (.nz N0 (M0 % M1)) (.is (.int .i64 0))), .val (.nz N0 (M0 / M1)), .val (.nz N0 (M0 % M1)), .val (.is (.int .i64 0)), .val (.nz N0 (M0 / M1)), .val (.nz N0 (M0 % M1)), .val (.is (.int .i64 0))] [] [] w.heap.size (by kernel_rfl) (by kernel_rfl) trivial HB ?_ ?_
  · exact ⟨fun s v h => does_val rfl rfl (x_fld (by decide) ((h.same 2 rfl).trans p253)) rfl,
      fun s v h => does_val rfl rfl (x_load_s (h.dep 0 rfl) ((h.far q252 b256.lt (by simp)).trans b256)) (f248.mono h.mono),
      fun s v h => does_val rfl rfl (x_fld (by decide) ((h.same 3 rfl).trans p259)) rfl,
      fun s v h => does_val rfl rfl (x_load_s (h.dep 2 rfl) ((h.far q258 b262.lt (by simp)).trans b262)) (f250.mono h.mono),
      fun s v h => does_call rfl rfl (x_call2 Try.call75) (ndiv_k (h.dep 1 rfl) (h.dep 3 rfl) (by omega) (by omega)),
      fun s v h => does_val rfl rfl (x_move) (h.dep 4 rfl),
      fun s v h => by obtain ⟨r0, r1, r2, e, f0, f1, f2⟩ := tup3_at (h.dep 5 rfl); exact does_val rfl rfl (x_ext e rfl) f0,
      fun s v h => by obtain ⟨r0, r1, r2, e, f0, f1, f2⟩ := tup3_at (h.dep 5 rfl); exact does_val rfl rfl (x_ext e rfl) f1,
      fun s v h => by obtain ⟨r0, r1, r2, e, f0, f1, f2⟩ := tup3_at (h.dep 5 rfl); exact does_val rfl rfl (x_ext e rfl) f2,
      fun s v h => does_val rfl rfl (x_assign) (h.dep 6 rfl),
      fun s v h => does_val rfl rfl (x_assign) (h.dep 7 rfl),
      fun s v h => does_val rfl rfl (x_assign) (h.dep 8 rfl), trivial⟩
  intro g284 ts v284 hts E284
  simp only [fillL, Nat.reduceAdd, List.setIfInBounds_toArray, List.set_cons_zero, List.set_cons_succ] at hts
  subst hts
  have T285 : Below w.heap.size w v284 := T246.trans E284.below
  have l286 : q252 < v245.heap.size := b256.lt
  have l287 : q258 < v245.heap.size := b262.lt
  have l288 : q265 < v245.heap.size := b269.lt
  have l289 : q274 < v245.heap.size := b278.lt
  have b290 : Bx v284 q252 24 #[.bool na0, .slice A0 n0 c0] := (E284.far q252 b256.lt (by simp)).trans b256
  have b291 : Bx v284 q258 24 #[.bool na1, .slice A1 n1 c1] := (E284.far q258 b262.lt (by simp)).trans b262
  have b292 : Bx v284 q265 24 #[.bool false, .slice none 0 0] := (E284.far q265 b269.lt (by simp)).trans b269
  have b293 : Bx v284 q274 24 #[.bool false, .slice none 0 0] := (E284.far q274 b278.lt (by simp)).trans b278
  have f296 := f249.mono E284.mono
  have f305 : Nz N0 v284 (g284 9) (M0 / M1) := E284.facts 9 (by decide)
  have f306 : Nz N0 v284 (g284 10) (M0 % M1) := E284.facts 10 (by decide)
  have e307 : g284 11 = (.int .i64 0) := E284.facts 11 (by decide)
  refine then_normal ?_
  refine wp_seq ?_
  refine wp_seq ?_
  have HB : w.heap.size ≤ v284.heap.size := T285.size
  refine wp_plan_seq [.val (.is (.int .i64 0)), .val (.is (.bool false))] [] [] w.heap.size (by kernel_rfl) (by kernel_rfl) trivial HB ?_ ?_
  · exact ⟨fun s v h => does_val rfl rfl (x_move) ((h.same 9 rfl).trans e307),
      fun s v h => does_val rfl rfl (x_neq_err (h.dep 0 rfl) rfl) rfl, trivial⟩
  intro g308 ts v308 hts E308
  simp only [fillL, Nat.reduceAdd, List.setIfInBounds_toArray, List.set_cons_zero, List.set_cons_succ] at hts
  subst hts
  have T309 : Below w.heap.size w v308 := T285.trans E308.below
  have l310 : q252 < v284.heap.size := b290.lt
  have l311 : q258 < v284.heap.size := b291.lt
  have l312 : q265 < v284.heap.size := b292.lt
  have l313 : q274 < v284.heap.size := b293.lt
  have b314 : Bx v308 q252 24 #[.bool na0, .slice A0 n0 c0] := (E308.far q252 b290.lt (by simp)).trans b290
  have b315 : Bx v308 q258 24 #[.bool na1, .slice A1 n1 c1] := (E308.far q258 b291.lt (by simp)).trans b291
  have b316 : Bx v308 q265 24 #[.bool false, .slice none 0 0] := (E308.far q265 b292.lt (by simp)).trans b292
  have b317 : Bx v308 q274 24 #[.bool false, .slice none 0 0] := (E308.far q274 b293.lt (by simp)).trans b293
  have f320 := f296.mono E308.mono
  have f328 := f305.mono E308.mono
  have f329 := f306.mono E308.mono
  have e331 : g308 1 = (.bool false) := E308.facts 1 (by decide)
  refine then_normal ?_
  refine wp_cond_false e331 ?_
  refine wp_skip ?_
  refine then_normal ?_
  refine wp_seq ?_
  have HB : w.heap.size ≤ v308.heap.size := T309.size
  refine wp_plan_any [.val (.is (.pointer (some ⟨q252, 0, none⟩))), .val (.is (.bool na0)), .val (.is (.pointer (some ⟨q258, 0, none⟩))), .val (.is (.bool na1)), .val (.is (.bool (!(na0 == na1)))), .val (.nz N0 (M0 / M1)), .val (.cz (zof (!(na0 == na1)) (M0 / M1))), .val (.is (.pointer (some ⟨q252, 0, none⟩))), .val (.is (.bool na0)), .val (.nz N0 (M0 % M1)), .val (.cz (zof na0 (M0 % M1))), .new 2 none, .new 2 none, .put 10 31, .put 11 35] [] [] w.heap.size (by kernel_rfl) (by kernel_rfl) (by kernel_rfl) trivial HB ?_ ?_
  · exact ⟨fun s v h => does_val rfl rfl (x_fld (by decide) ((h.same 2 rfl).trans p253)) rfl,
      fun s v h => does_val rfl rfl (x_load_b (h.dep 0 rfl) ((h.far q252 b314.lt (by simp)).trans b314)) rfl,
      fun s v h => does_val rfl rfl (x_fld (by decide) ((h.same 3 rfl).trans p259)) rfl,
      fun s v h => does_val rfl rfl (x_load_b (h.dep 2 rfl) ((h.far q258 b315.lt (by simp)).trans b315)) rfl,
      fun s v h => does_val rfl rfl (x_neq_bool (h.dep 1 rfl) (h.dep 3 rfl)) rfl,
      fun s v h => does_val rfl rfl (x_move) ((f328.mono ((Mono.drew _).trans h.mono)).at (h.same 7 rfl)),
      fun s v h => does_call rfl rfl (x_call2 Try.call76) (zmade_k (h.dep 4 rfl) (h.dep 5 rfl)),
      fun s v h => does_val rfl rfl (x_fld (by decide) ((h.same 2 rfl).trans p253)) rfl,
      fun s v h => does_val rfl rfl (x_load_b (h.dep 7 rfl) ((h.far q252 b314.lt (by simp)).trans b314)) rfl,
      fun s v h => does_val rfl rfl (x_move) ((f329.mono ((Mono.drew _).trans h.mono)).at (h.same 8 rfl)),
      fun s v h => does_call rfl rfl (x_call2 Try.call76) (zmade_k (h.dep 8 rfl) (h.dep 9 rfl)),
      fun s v h => does_new rfl rfl x_alloc_z (okz _ _ _ _) rfl (.inl rfl),
      fun s v h => does_new rfl rfl x_alloc_z (okz _ _ _ _) rfl (.inl rfl),
      fun s v h => by obtain ⟨q, e1, e2, e3⟩ := new_at (h.dep 11 rfl); exact does_put_z rfl rfl e1 (h.dep 6 rfl).shape e3 (Nat.le_trans HB e2),
      fun s v h => by obtain ⟨q, e1, e2, e3⟩ := new_at (h.dep 12 rfl); exact does_put_z rfl rfl e1 (h.dep 10 rfl).shape e3 (Nat.le_trans HB e2), trivial⟩
  intro g332 ts v332 hts E332
  simp only [fillL, Nat.reduceAdd, List.setIfInBounds_toArray, List.set_cons_zero, List.set_cons_succ] at hts
  subst hts
  have T333 : Below w.heap.size w v332 := (below_toDrew T309).trans E332.below
  have l334 : q252 < v308.heap.size := b314.lt
  have l335 : q258 < v308.heap.size := b315.lt
  have l336 : q265 < v308.heap.size := b316.lt
  have l337 : q274 < v308.heap.size := b317.lt
  have b338 : Bx v332 q252 24 #[.bool na0, .slice A0 n0 c0] := (E332.far q252 b314.lt (by simp)).trans b314
  have b339 : Bx v332 q258 24 #[.bool na1, .slice A1 n1 c1] := (E332.far q258 b315.lt (by simp)).trans b315
  have b340 : Bx v332 q265 24 #[.bool false, .slice none 0 0] := (E332.far q265 b316.lt (by simp)).trans b316
  have b341 : Bx v332 q274 24 #[.bool false, .slice none 0 0] := (E332.far q274 b317.lt (by simp)).trans b317
  have f344 := f320.mono ((Mono.drew _).trans E332.mono)
  have f358 : Cz v332 (g332 6) (zof (!(na0 == na1)) (M0 / M1)) := E332.facts 6 (by decide)
  have f361 : Cz v332 (g332 10) (zof na0 (M0 % M1)) := E332.facts 10 (by decide)
  obtain ⟨q362, p363, l364, o365⟩ : ∃ q, g332 11 = .pointer (some ⟨q, 0, none⟩) ∧ v308.heap.size ≤ q ∧ OkB v332 q 2 := E332.facts 11 (by decide)
  have h366 : w.heap.size ≤ q362 := Nat.le_trans HB l364
  have n369 : q265 ≠ q362 := by omega
  have n370 : q274 ≠ q362 := by omega
  obtain ⟨q371, p372, l373, o374⟩ : ∃ q, g332 12 = .pointer (some ⟨q, 0, none⟩) ∧ v308.heap.size ≤ q ∧ OkB v332 q 2 := E332.facts 12 (by decide)
  have h375 : w.heap.size ≤ q371 := Nat.le_trans HB l373
  have n378 : q265 ≠ q371 := by omega
  have n379 : q274 ≠ q371 := by omega
  obtain ⟨t381, x383, A384, m385, c386, e387, b382⟩ := put_info (E332.facts 13 (by decide)) p363 f358.shape
  have f388 : Cz v332 (.agg #[.bool x383, .slice A384 m385 c386]) (zof (!(na0 == na1)) (M0 / M1)) := f358.at e387.symm
  obtain ⟨t389, x391, A392, m393, c394, e395, b390⟩ := put_info (E332.facts 14 (by decide)) p372 f361.shape
  have f396 : Cz v332 (.agg #[.bool x391, .slice A392 m393 c394]) (zof na0 (M0 % M1)) := f361.at e395.symm
  refine then_normal ?_
  refine wp_seq ?_
  refine wp_seq ?_
  have HB : w.heap.size ≤ v332.heap.size := T333.size
  refine wp_plan_any [.val (.cz (zof na0 (M0 % M1))), .val (.is (.int .i64 (zof na0 (M0 % M1)).sign)), .val (.is (.bool true)), .val (.is (.bool true)), .val (.cz (zof na0 (M0 % M1))), .val (.is (.int .i64 (zof na0 (M0 % M1)).sign)), .val (.az N1 (zof na1 M1)), .val (.is (.int .i64 (zof na1 M1).sign)), .val (.is (.bool false)), .val (.is (.bool false))] [] [] w.heap.size (by kernel_rfl) (by kernel_rfl) (by kernel_rfl) trivial HB ?_ ?_
  · exact ⟨fun s v h => does_val rfl rfl (x_load_z ((h.same 11 rfl).trans p372) ((h.far q371 b390.lt (by simp)).trans b390)) (f396.mono ((Mono.drew _).trans h.mono)),
      fun s v h => does_call rfl rfl (x_call1 Try.call43) (sign_k ((h.dep 0 rfl).az (N := N0) (by rw [zof_abs]; exact Nat.le_trans (dl_le (Nat.mod_le M0 M1)) hm0.len))),
      fun s v h => does_val rfl rfl (x_neq_int (h.dep 1 rfl) rfl) (congrArg (fun x => Value.bool (!x)) d1),
      fun s v h => does_val rfl rfl (x_move) (h.dep 2 rfl),
      fun s v h => does_val rfl (wanted_by (b := true) (want := true) rfl rfl (h.dep 3 rfl)) (x_load_z ((h.same 11 rfl).trans p372) ((h.far q371 b390.lt (by simp)).trans b390)) (f396.mono ((Mono.drew _).trans h.mono)),
      fun s v h => does_call rfl (wanted_by (b := true) (want := true) rfl rfl (h.dep 3 rfl)) (x_call1 Try.call43) (sign_k ((h.dep 4 rfl).az (N := N0) (by rw [zof_abs]; exact Nat.le_trans (dl_le (Nat.mod_le M0 M1)) hm0.len))),
      fun s v h => does_val rfl (wanted_by (b := true) (want := true) rfl rfl (h.dep 3 rfl)) (x_load_z ((h.same 3 rfl).trans p259) ((h.far q258 b339.lt (by simp)).trans b339)) (f344.mono ((Mono.drew _).trans h.mono)),
      fun s v h => does_call rfl (wanted_by (b := true) (want := true) rfl rfl (h.dep 3 rfl)) (x_call1 Try.call43) (sign_k (h.dep 6 rfl)),
      fun s v h => does_val rfl (wanted_by (b := true) (want := true) rfl rfl (h.dep 3 rfl)) (x_neq_int (h.dep 5 rfl) (h.dep 7 rfl)) (congrArg (fun x => Value.bool (!x)) d2),
      fun s v h => does_val rfl rfl (x_pick (h.dep 3 rfl)) (h.dep 8 rfl), trivial⟩
  intro g397 ts v397 hts E397
  simp only [fillL, Nat.reduceAdd, List.setIfInBounds_toArray, List.set_cons_zero, List.set_cons_succ] at hts
  subst hts
  have T398 : Below w.heap.size w v397 := (below_toDrew T333).trans E397.below
  have l399 : q252 < v332.heap.size := b338.lt
  have l400 : q258 < v332.heap.size := b339.lt
  have l401 : q265 < v332.heap.size := b340.lt
  have l402 : q274 < v332.heap.size := b341.lt
  have l403 : q362 < v332.heap.size := b382.lt
  have l404 : q371 < v332.heap.size := b390.lt
  have b405 : Bx v397 q252 24 #[.bool na0, .slice A0 n0 c0] := (E397.far q252 b338.lt (by simp)).trans b338
  have b406 : Bx v397 q258 24 #[.bool na1, .slice A1 n1 c1] := (E397.far q258 b339.lt (by simp)).trans b339
  have b407 : Bx v397 q265 24 #[.bool false, .slice none 0 0] := (E397.far q265 b340.lt (by simp)).trans b340
  have b408 : Bx v397 q274 24 #[.bool false, .slice none 0 0] := (E397.far q274 b341.lt (by simp)).trans b341
  have b409 : Bx v397 q362 t381 #[.bool x383, .slice A384 m385 c386] := (E397.far q362 b382.lt (by simp)).trans b382
  have b410 : Bx v397 q371 t389 #[.bool x391, .slice A392 m393 c394] := (E397.far q371 b390.lt (by simp)).trans b390
  have f427 := f388.mono ((Mono.drew _).trans E397.mono)
  have f428 := f396.mono ((Mono.drew _).trans E397.mono)
  have e438 : g397 9 = (.bool false) := E397.facts 9 (by decide)
  refine then_normal ?_
  refine wp_cond_false e438 ?_
  refine wp_skip ?_
  refine then_normal ?_
  refine wp_seq ?_
  have HB : w.heap.size ≤ v397.heap.size := T398.size
  refine wp_plan_any [.val (.cz (zof (!(na0 == na1)) (M0 / M1))), .val (.cz (zof na0 (M0 % M1))), .put 4 52, .put 5 53, .val (.is (.int .i64 0))] [4, 5] [q265, q274] w.heap.size (by kernel_rfl) (by kernel_rfl) (by kernel_rfl) ⟨p266, b407.lt, (nin1 n283), ⟨p275, b408.lt, (by simp), trivial⟩⟩ HB ?_ ?_
  · exact ⟨fun s v h => does_val rfl rfl (x_load_z ((h.same 10 rfl).trans p363) ((h.far q362 b409.lt (nin2 n369.symm n370.symm)).trans b409)) (f427.mono ((Mono.drew _).trans h.mono)),
      fun s v h => does_val rfl rfl (x_load_z ((h.same 11 rfl).trans p372) ((h.far q371 b410.lt (nin2 n378.symm n379.symm)).trans b410)) (f428.mono ((Mono.drew _).trans h.mono)),
      fun s v h => does_put_z rfl rfl ((h.same 4 rfl).trans p266) (h.dep 0 rfl).shape (((Mono.drew _).trans h.mono).ok _ _ b407.ok2) h271,
      fun s v h => does_put_z rfl rfl ((h.same 5 rfl).trans p275) (h.dep 1 rfl).shape (((Mono.drew _).trans h.mono).ok _ _ b408.ok2) h280,
      fun s v h => does_val rfl rfl (x_assign) rfl, trivial⟩
  intro g439 ts v439 hts E439
  simp only [fillL, Nat.reduceAdd, List.setIfInBounds_toArray, List.set_cons_zero, List.set_cons_succ] at hts
  subst hts
  have T440 : Below w.heap.size w v439 := (below_toDrew T398).trans E439.below
  have l441 : q252 < v397.heap.size := b405.lt
  have l442 : q258 < v397.heap.size := b406.lt
  have l443 : q265 < v397.heap.size := b407.lt
  have l444 : q274 < v397.heap.size := b408.lt
  have l445 : q362 < v397.heap.size := b409.lt
  have l446 : q371 < v397.heap.size := b410.lt
  have f472 : Cz v439 (g439 0) (zof (!(na0 == na1)) (M0 / M1)) := E439.facts 0 (by decide)
  have f473 : Cz v439 (g439 1) (zof na0 (M0 % M1)) := E439.facts 1 (by decide)
  have e474 : g439 4 = (.int .i64 0) := E439.facts 4 (by decide)
  obtain ⟨t475, x477, A478, m479, c480, e481, b476⟩ := put_info (E439.facts 2 (by decide)) p266 f472.shape
  have f482 : Cz v439 (.agg #[.bool x477, .slice A478 m479 c480]) (zof (!(na0 == na1)) (M0 / M1)) := f472.at e481.symm
  obtain ⟨t483, x485, A486, m487, c488, e489, b484⟩ := put_info (E439.facts 3 (by decide)) p275 f473.shape
  have f490 : Cz v439 (.agg #[.bool x485, .slice A486 m487 c488]) (zof na0 (M0 % M1)) := f473.at e489.symm
  refine then_normal ?_
  refine wp_ret ?_
  exact bodyPost_ret (ret_cct rfl p266 b476 p275 b484) rfl ⟨_, rfl, ⟨_, _, _, rfl, f482, f490, e474⟩, T440⟩

set_option maxHeartbeats 4000000 in
set_option maxRecDepth 8000 in
theorem zfloor_c {w : World} {na0 : Bool} {A0 : Option Addr} {n0 c0 M0 N0 : Nat} (hm0 : Nz N0 w (.slice A0 n0 c0) M0) {na1 : Bool} {A1 : Option Addr} {n1 c1 M1 N1 : Nat} (hm1 : Nz N1 w (.slice A1 n1 c1) M1) (hN0 : N0 ≤ 35184372088820) (hb : 0 < M1) (hN1 : N1 ≤ 35184372088820) (d1 : ((zof na0 (M0 % M1)).sign == 0) = false) (d2 : ((zof na0 (M0 % M1)).sign == (zof na1 M1).sign) = false)  : Calls Try.prog 42 #[.agg #[.bool na0, .slice A0 n0 c0], .agg #[.bool na1, .slice A1 n1 c1]] w (Ret (.tup3 (.cz ((zof (!(na0 == na1)) (M0 / M1)) - 1)) (.cz ((zof na0 (M0 % M1)) + (zof na1 M1))) (.is (.int .i64 0))) w) := by
  have ha0 : Az N0 w (.agg #[.bool na0, .slice A0 n0 c0]) (zof na0 M0) := Az.of_nz hm0
  have la0 := ha0.len
  have ha1 : Az N1 w (.agg #[.bool na1, .slice A1 n1 c1]) (zof na1 M1) := Az.of_nz hm1
  have la1 := ha1.len
  have T0 : Below w.heap.size w w := Below.refl _ _
  go_enter Try.func42, Try.ntmps42
  refine wp_seq ?_
  have HB : w.heap.size ≤ w.heap.size := T0.size
  refine wp_plan_seq [.new 2 (some (24, #[.bool na0, .slice A0 n0 c0])), .new 2 (some (24, #[.bool na1, .slice A1 n1 c1])), .new 2 (some (24, #[.bool false, .slice none 0 0])), .new 2 (some (24, #[.bool false, .slice none 0 0])), .val (.is (.int .i64 0))] [] [] w.heap.size (by kernel_rfl) (by kernel_rfl) trivial HB ?_ ?_
  · exact ⟨fun s v h => does_new rfl rfl (x_box_z (h.same 0 rfl)) (okz _ _ _ _) rfl (.inr rfl),
      fun s v h => does_new rfl rfl (x_box_z (h.same 1 rfl)) (okz _ _ _ _) rfl (.inr rfl),
      fun s v h => does_new rfl rfl x_alloc_z (okz _ _ _ _) rfl (.inr rfl),
      fun s v h => does_new rfl rfl x_alloc_z (okz _ _ _ _) rfl (.inr rfl),
      fun s v h => does_val rfl rfl (x_assign) rfl, trivial⟩
  intro g491 ts v491 hts E491
  simp only [fillL, Nat.reduceAdd, List.setIfInBounds_toArray, List.set_cons_zero, List.set_cons_succ] at hts
  subst hts
  have T492 : Below w.heap.size w v491 := T0.trans E491.below
  have f494 := hm0.mono E491.mono
  have f495 := ha1.mono E491.mono
  have f496 := hm1.mono E491.mono
  obtain ⟨q498, p499, l500, o501, b502⟩ : ∃ q, g491 0 = .pointer (some ⟨q, 0, none⟩) ∧ w.heap.size ≤ q ∧ OkB v491 q 2 ∧ Bx v491 q 24 #[.bool na0, .slice A0 n0 c0] := E491.facts 0 (by decide)
  have h503 : w.heap.size ≤ q498 := Nat.le_trans HB l500
  obtain ⟨q504, p505, l506, o507, b508⟩ : ∃ q, g491 1 = .pointer (some ⟨q, 0, none⟩) ∧ w.heap.size ≤ q ∧ OkB v491 q 2 ∧ Bx v491 q 24 #[.bool na1, .slice A1 n1 c1] := E491.facts 1 (by decide)
  have h509 : w.heap.size ≤ q504 := Nat.le_trans HB l506
  obtain ⟨q511, p512, l513, o514, b515⟩ : ∃ q, g491 2 = .pointer (some ⟨q, 0, none⟩) ∧ w.heap.size ≤ q ∧ OkB v491 q 2 ∧ Bx v491 q 24 #[.bool false, .slice none 0 0] := E491.facts 2 (by decide)
  have h517 : w.heap.size ≤ q511 := Nat.le_trans HB l513
  obtain ⟨q520, p521, l522, o523, b524⟩ : ∃ q, g491 3 = .pointer (some ⟨q, 0, none⟩) ∧ w.heap.size ≤ q ∧ OkB v491 q 2 ∧ Bx v491 q 24 #[.bool false, .slice none 0 0] := E491.facts 3 (by decide)
  have h526 : w.heap.size ≤ q520 := Nat.le_trans HB l522
  have n529 : q511 ≠ q520 := E491.apart 2 3 (by decide) (by decide) (by decide) ⟨_, _, _, rfl⟩ ⟨_, _, _, rfl⟩ none _ none _ p512 p521
  refine then_normal ?_
  refine wp_seq ?_
  have HB : w.heap.size ≤ v491.heap.size := T492.size
  refine wp_plan_seq [.val (.is (.pointer (some ⟨q498, 1, none⟩))), .val (.nz N0 M0), .val (.is (.pointer (some ⟨q504, 1, none⟩))), .val (.nz N1 M1), .val (.tup3 (.nz N0 (M0 / M1)) (.nz N0 (M0 % M1)) (.is (.int .i64 0))), .val (.tup3 (.nz N0 (M0 / M1)) (.nz N0 (M0 % M1)) (.is (.int .i64 0))), .val (.nz N0 (M0 / M1)), .val (.nz N0 (M0 % M1)), .val (.is (.int .i64 0)), .val (.nz N0 (M0 / M1)), .val (.nz N0 (M0 % M1)), .val (.is (.int .i64 0))] [] [] w.heap.size (by kernel_rfl) (by kernel_rfl) trivial HB ?_ ?_
  · exact ⟨fun s v h => does_val rfl rfl (x_fld (by decide) ((h.same 2 rfl).trans p499)) rfl,
      fun s v h => does_val rfl rfl (x_load_s (h.dep 0 rfl) ((h.far q498 b502.lt (by simp)).trans b502)) (f494.mono h.mono),
      fun s v h => does_val rfl rfl (x_fld (by decide) ((h.same 3 rfl).trans p505)) rfl,
      fun s v h => does_val rfl rfl (x_load_s (h.dep 2 rfl) ((h.far q504 b508.lt (by simp)).trans b508)) (f496.mono h.mono),
      fun s v h => does_call rfl rfl (x_call2 Try.call75) (ndiv_k (h.dep 1 rfl) (h.dep 3 rfl) (by omega) (by omega)),
      fun s v h => does_val rfl rfl (x_move) (h.dep 4 rfl),
      fun s v h => by obtain ⟨r0, r1, r2, e, f0, f1, f2⟩ := tup3_at (h.dep 5 rfl); exact does_val rfl rfl (x_ext e rfl) f0,
      fun s v h => by obtain ⟨r0, r1, r2, e, f0, f1, f2⟩ := tup3_at (h.dep 5 rfl); exact does_val rfl rfl (x_ext e rfl) f1,
      fun s v h => by obtain ⟨r0, r1, r2, e, f0, f1, f2⟩ := tup3_at (h.dep 5 rfl); exact does_val rfl rfl (x_ext e rfl) f2,
      fun s v h => does_val rfl rfl (x_assign) (h.dep 6 rfl),
      fun s v h => does_val rfl rfl (x_assign) (h.dep 7 rfl),
      fun s v h => does_val rfl rfl (x_assign) (h.dep 8 rfl), trivial⟩
  intro g530 ts v530 hts E530
  simp only [fillL, Nat.reduceAdd, List.setIfInBounds_toArray, List.set_cons_zero, List.set_cons_succ] at hts
  subst hts
  have T531 : Below w.heap.size w v530 := T492.trans E530.below
  have l532 : q498 < v491.heap.size := b502.lt
  have l533 : q504 < v491.heap.size := b508.lt
  have l534 : q511 < v491.heap.size := b515.lt
  have l535 : q520 < v491.heap.size := b524.lt
  have b536 : Bx v530 q498 24 #[.bool na0, .slice A0 n0 c0] := (E530.far q498 b502.lt (by simp)).trans b502
  have b537 : Bx v530 q504 24 #[.bool na1, .slice A1 n1 c1] := (E530.far q504 b508.lt (by simp)).trans b508
  have b538 : Bx v530 q511 24 #[.bool false, .slice none 0 0] := (E530.far q511 b515.lt (by simp)).trans b515
  have b539 : Bx v530 q520 24 #[.bool false, .slice none 0 0] := (E530.far q520 b524.lt (by simp)).trans b524
  have f542 := f495.mono E530.mono
  have f551 : Nz N0 v530 (g530 9) (M0 / M1) := E530.facts 9 (by decide)
  have f552 : Nz N0 v530 (g530 10) (M0 % M1) := E530.facts 10 (by decide)
  have e553 : g530 11 = (.int .i64 0) := E530.facts 11 (by decide)
  refine then_normal ?_
  refine wp_seq ?_
  refine wp_seq ?_
  have HB : w.heap.size ≤ v530.heap.size := T531.size
  refine wp_plan_seq [.val (.is (.int .i64 0)), .val (.is (.bool false))] [] [] w.heap.size (by kernel_rfl) (by kernel_rfl) trivial HB ?_ ?_
  · exact ⟨fun s v h => does_val rfl rfl (x_move) ((h.same 9 rfl).trans e553),
      fun s v h => does_val rfl rfl (x_neq_err (h.dep 0 rfl) rfl) rfl, trivial⟩
  intro g554 ts v554 hts E554
  simp only [fillL, Nat.reduceAdd, List.setIfInBounds_toArray, List.set_cons_zero, List.set_cons_succ] at hts
  subst hts
  have T555 : Below w.heap.size w v554 := T531.trans E554.below
  have l556 : q498 < v530.heap.size := b536.lt
  have l557 : q504 < v530.heap.size := b537.lt
  have l558 : q511 < v530.heap.size := b538.lt
  have l559 : q520 < v530.heap.size := b539.lt
  have b560 : Bx v554 q498 24 #[.bool na0, .slice A0 n0 c0] := (E554.far q498 b536.lt (by simp)).trans b536
  have b561 : Bx v554 q504 24 #[.bool na1, .slice A1 n1 c1] := (E554.far q504 b537.lt (by simp)).trans b537
  have b562 : Bx v554 q511 24 #[.bool false, .slice none 0 0] := (E554.far q511 b538.lt (by simp)).trans b538
  have b563 : Bx v554 q520 24 #[.bool false, .slice none 0 0] := (E554.far q520 b539.lt (by simp)).trans b539
  have f566 := f542.mono E554.mono
  have f574 := f551.mono E554.mono
  have f575 := f552.mono E554.mono
  have e577 : g554 1 = (.bool false) := E554.facts 1 (by decide)
  refine then_normal ?_
  refine wp_cond_false e577 ?_
  refine wp_skip ?_
  refine then_normal ?_
  refine wp_seq ?_
  have HB : w.heap.size ≤ v554.heap.size := T555.size
  refine wp_plan_any [.val (.is (.pointer (some ⟨q498, 0, none⟩))), .val (.is (.bool na0)), .val (.is (.pointer (some ⟨q504, 0, none⟩))), .val (.is (.bool na1)), .val (.is (.bool (!(na0 == na1)))), .val (.nz N0 (M0 / M1)), .val (.cz (zof (!(na0 == na1)) (M0 / M1))), .val (.is (.pointer (some ⟨q498, 0, none⟩))), .val (.is (.bool na0)), .val (.nz N0 (M0 % M1)), .val (.cz (zof na0 (M0 % M1))), .new 2 none, .new 2 none, .put 10 31, .put 11 35] [] [] w.heap.size (by kernel_rfl) (by kernel_rfl) (by kernel_rfl) trivial HB ?_ ?_
  · exact ⟨fun s v h => does_val rfl rfl (x_fld (by decide) ((h.same 2 rfl).trans p499)) rfl,
      fun s v h => does_val rfl rfl (x_load_b (h.dep 0 rfl) ((h.far q498 b560.lt (by simp)).trans b560)) rfl,
      fun s v h => does_val rfl rfl (x_fld (by decide) ((h.same 3 rfl).trans p505)) rfl,
      fun s v h => does_val rfl rfl (x_load_b (h.dep 2 rfl) ((h.far q504 b561.lt (by simp)).trans b561)) rfl,
      fun s v h => does_val rfl rfl (x_neq_bool (h.dep 1 rfl) (h.dep 3 rfl)) rfl,
      fun s v h => does_val rfl rfl (x_move) ((f574.mono ((Mono.drew _).trans h.mono)).at (h.same 7 rfl)),
      fun s v h => does_call rfl rfl (x_call2 Try.call76) (zmade_k (h.dep 4 rfl) (h.dep 5 rfl)),
      fun s v h => does_val rfl rfl (x_fld (by decide) ((h.same 2 rfl).trans p499)) rfl,
      fun s v h => does_val rfl rfl (x_load_b (h.dep 7 rfl) ((h.far q498 b560.lt (by simp)).trans b560)) rfl,
      fun s v h => does_val rfl rfl (x_move) ((f575.mono ((Mono.drew _).trans h.mono)).at (h.same 8 rfl)),
      fun s v h => does_call rfl rfl (x_call2 Try.call76) (zmade_k (h.dep 8 rfl) (h.dep 9 rfl)),
      fun s v h => does_new rfl rfl x_alloc_z (okz _ _ _ _) rfl (.inl rfl),
      fun s v h => does_new rfl rfl x_alloc_z (okz _ _ _ _) rfl (.inl rfl),
      fun s v h => by obtain ⟨q, e1, e2, e3⟩ := new_at (h.dep 11 rfl); exact does_put_z rfl rfl e1 (h.dep 6 rfl).shape e3 (Nat.le_trans HB e2),
      fun s v h => by obtain ⟨q, e1, e2, e3⟩ := new_at (h.dep 12 rfl); exact does_put_z rfl rfl e1 (h.dep 10 rfl).shape e3 (Nat.le_trans HB e2), trivial⟩
  intro g578 ts v578 hts E578
  simp only [fillL, Nat.reduceAdd, List.setIfInBounds_toArray, List.set_cons_zero, List.set_cons_succ] at hts
  subst hts
  have T579 : Below w.heap.size w v578 := (below_toDrew T555).trans E578.below
  have l580 : q498 < v554.heap.size := b560.lt
  have l581 : q504 < v554.heap.size := b561.lt
  have l582 : q511 < v554.heap.size := b562.lt
  have l583 : q520 < v554.heap.size := b563.lt
  have b584 : Bx v578 q498 24 #[.bool na0, .slice A0 n0 c0] := (E578.far q498 b560.lt (by simp)).trans b560
  have b585 : Bx v578 q504 24 #[.bool na1, .slice A1 n1 c1] := (E578.far q504 b561.lt (by simp)).trans b561
  have b586 : Bx v578 q511 24 #[.bool false, .slice none 0 0] := (E578.far q511 b562.lt (by simp)).trans b562
  have b587 : Bx v578 q520 24 #[.bool false, .slice none 0 0] := (E578.far q520 b563.lt (by simp)).trans b563
  have f590 := f566.mono ((Mono.drew _).trans E578.mono)
  have f604 : Cz v578 (g578 6) (zof (!(na0 == na1)) (M0 / M1)) := E578.facts 6 (by decide)
  have f607 : Cz v578 (g578 10) (zof na0 (M0 % M1)) := E578.facts 10 (by decide)
  obtain ⟨q608, p609, l610, o611⟩ : ∃ q, g578 11 = .pointer (some ⟨q, 0, none⟩) ∧ v554.heap.size ≤ q ∧ OkB v578 q 2 := E578.facts 11 (by decide)
  have h612 : w.heap.size ≤ q608 := Nat.le_trans HB l610
  have n613 : q498 ≠ q608 := by omega
  have n614 : q504 ≠ q608 := by omega
  have n615 : q511 ≠ q608 := by omega
  have n616 : q520 ≠ q608 := by omega
  obtain ⟨q617, p618, l619, o620⟩ : ∃ q, g578 12 = .pointer (some ⟨q, 0, none⟩) ∧ v554.heap.size ≤ q ∧ OkB v578 q 2 := E578.facts 12 (by decide)
  have h621 : w.heap.size ≤ q617 := Nat.le_trans HB l619
  have n622 : q498 ≠ q617 := by omega
  have n623 : q504 ≠ q617 := by omega
  have n624 : q511 ≠ q617 := by omega
  have n625 : q520 ≠ q617 := by omega
  have n626 : q608 ≠ q617 := E578.apart 11 12 (by decide) (by decide) (by decide) ⟨_, _, _, rfl⟩ ⟨_, _, _, rfl⟩ none _ none _ p609 p618
  obtain ⟨t627, x629, A630, m631, c632, e633, b628⟩ := put_info (E578.facts 13 (by decide)) p609 f604.shape
  have f634 : Cz v578 (.agg #[.bool x629, .slice A630 m631 c632]) (zof (!(na0 == na1)) (M0 / M1)) := f604.at e633.symm
  obtain ⟨t635, x637, A638, m639, c640, e641, b636⟩ := put_info (E578.facts 14 (by decide)) p618 f607.shape
  have f642 : Cz v578 (.agg #[.bool x637, .slice A638 m639 c640]) (zof na0 (M0 % M1)) := f607.at e641.symm
  refine then_normal ?_
  refine wp_seq ?_
  refine wp_seq ?_
  have HB : w.heap.size ≤ v578.heap.size := T579.size
  refine wp_plan_any [.val (.cz (zof na0 (M0 % M1))), .val (.is (.int .i64 (zof na0 (M0 % M1)).sign)), .val (.is (.bool true)), .val (.is (.bool true)), .val (.cz (zof na0 (M0 % M1))), .val (.is (.int .i64 (zof na0 (M0 % M1)).sign)), .val (.az N1 (zof na1 M1)), .val (.is (.int .i64 (zof na1 M1).sign)), .val (.is (.bool true)), .val (.is (.bool true))] [] [] w.heap.size (by kernel_rfl) (by kernel_rfl) (by kernel_rfl) trivial HB ?_ ?_
  · exact ⟨fun s v h => does_val rfl rfl (x_load_z ((h.same 11 rfl).trans p618) ((h.far q617 b636.lt (by simp)).trans b636)) (f642.mono ((Mono.drew _).trans h.mono)),
      fun s v h => does_call rfl rfl (x_call1 Try.call43) (sign_k ((h.dep 0 rfl).az (N := N0) (by rw [zof_abs]; exact Nat.le_trans (dl_le (Nat.mod_le M0 M1)) hm0.len))),
      fun s v h => does_val rfl rfl (x_neq_int (h.dep 1 rfl) rfl) (congrArg (fun x => Value.bool (!x)) d1),
      fun s v h => does_val rfl rfl (x_move) (h.dep 2 rfl),
      fun s v h => does_val rfl (wanted_by (b := true) (want := true) rfl rfl (h.dep 3 rfl)) (x_load_z ((h.same 11 rfl).trans p618) ((h.far q617 b636.lt (by simp)).trans b636)) (f642.mono ((Mono.drew _).trans h.mono)),
      fun s v h => does_call rfl (wanted_by (b := true) (want := true) rfl rfl (h.dep 3 rfl)) (x_call1 Try.call43) (sign_k ((h.dep 4 rfl).az (N := N0) (by rw [zof_abs]; exact Nat.le_trans (dl_le (Nat.mod_le M0 M1)) hm0.len))),
      fun s v h => does_val rfl (wanted_by (b := true) (want := true) rfl rfl (h.dep 3 rfl)) (x_load_z ((h.same 3 rfl).trans p505) ((h.far q504 b585.lt (by simp)).trans b585)) (f590.mono ((Mono.drew _).trans h.mono)),
      fun s v h => does_call rfl (wanted_by (b := true) (want := true) rfl rfl (h.dep 3 rfl)) (x_call1 Try.call43) (sign_k (h.dep 6 rfl)),
      fun s v h => does_val rfl (wanted_by (b := true) (want := true) rfl rfl (h.dep 3 rfl)) (x_neq_int (h.dep 5 rfl) (h.dep 7 rfl)) (congrArg (fun x => Value.bool (!x)) d2),
      fun s v h => does_val rfl rfl (x_pick (h.dep 3 rfl)) (h.dep 8 rfl), trivial⟩
  intro g643 ts v643 hts E643
  simp only [fillL, Nat.reduceAdd, List.setIfInBounds_toArray, List.set_cons_zero, List.set_cons_succ] at hts
  subst hts
  have T644 : Below w.heap.size w v643 := (below_toDrew T579).trans E643.below
  have l645 : q498 < v578.heap.size := b584.lt
  have l646 : q504 < v578.heap.size := b585.lt
  have l647 : q511 < v578.heap.size := b586.lt
  have l648 : q520 < v578.heap.size := b587.lt
  have l649 : q608 < v578.heap.size := b628.lt
  have l650 : q617 < v578.heap.size := b636.lt
  have b651 : Bx v643 q498 24 #[.bool na0, .slice A0 n0 c0] := (E643.far q498 b584.lt (by simp)).trans b584
  have b652 : Bx v643 q504 24 #[.bool na1, .slice A1 n1 c1] := (E643.far q504 b585.lt (by simp)).trans b585
  have b653 : Bx v643 q511 24 #[.bool false, .slice none 0 0] := (E643.far q511 b586.lt (by simp)).trans b586
  have b654 : Bx v643 q520 24 #[.bool false, .slice none 0 0] := (E643.far q520 b587.lt (by simp)).trans b587
  have b655 : Bx v643 q608 t627 #[.bool x629, .slice A630 m631 c632] := (E643.far q608 b628.lt (by simp)).trans b628
  have b656 : Bx v643 q617 t635 #[.bool x637, .slice A638 m639 c640] := (E643.far q617 b636.lt (by simp)).trans b636
  have f659 := f590.mono ((Mono.drew _).trans E643.mono)
  have f673 := f634.mono ((Mono.drew _).trans E643.mono)
  have f674 := f642.mono ((Mono.drew _).trans E643.mono)
  have e684 : g643 9 = (.bool true) := E643.facts 9 (by decide)
  refine then_normal ?_
  refine wp_cond_true e684 ?_
  have HB : w.heap.size ≤ v643.heap.size := T644.size
  refine wp_plan_any [.val (.cz (zof (!(na0 == na1)) (M0 / M1))), .val (.cz 1), .val (.cz ((zof (!(na0 == na1)) (M0 / M1)) - 1)), .val (.cz (zof na0 (M0 % M1))), .val (.az N1 (zof na1 M1)), .val (.cz ((zof na0 (M0 % M1)) + (zof na1 M1))), .put 10 48, .put 11 51] [10, 11] [q608, q617] w.heap.size (by kernel_rfl) (by kernel_rfl) (by kernel_rfl) ⟨p609, b655.lt, (nin1 n626), ⟨p618, b656.lt, (by simp), trivial⟩⟩ HB ?_ ?_
  · exact ⟨fun s v h => does_val rfl rfl (x_load_z ((h.same 10 rfl).trans p609) ((h.held 6 10 48 _ rfl rfl rfl p609).trans b655)) (f673.mono ((Mono.drew _).trans h.mono)),
      fun s v h => does_call rfl rfl (x_call1 Try.call52) (of_k rfl (by decide) (by decide)),
      fun s v h => does_call rfl rfl (x_call2 Try.call60) (sub_k ((h.dep 0 rfl).az (N := N0) (by rw [zof_abs]; exact Nat.le_trans (dl_le (Nat.div_le_self M0 M1)) hm0.len)) ((h.dep 1 rfl).az (N := 1) (show (digs (Int.natAbs 1)).length ≤ 1 from digs_len_le (by decide))) (by omega) (by omega)),
      fun s v h => does_val rfl rfl (x_load_z ((h.same 11 rfl).trans p618) ((h.held 7 11 51 _ rfl rfl rfl p618).trans b656)) (f674.mono ((Mono.drew _).trans h.mono)),
      fun s v h => does_val rfl rfl (x_load_z ((h.same 3 rfl).trans p505) ((h.far q504 b652.lt (nin2 n614 n623)).trans b652)) (f659.mono ((Mono.drew _).trans h.mono)),
      fun s v h => does_call rfl rfl (x_call2 Try.call58) (add_k ((h.dep 3 rfl).az (N := N0) (by rw [zof_abs]; exact Nat.le_trans (dl_le (Nat.mod_le M0 M1)) hm0.len)) (h.dep 4 rfl) (by omega) (by omega)),
      fun s v h => does_put_z rfl rfl ((h.same 10 rfl).trans p609) (h.dep 2 rfl).shape (((Mono.drew _).trans h.mono).ok _ _ b655.ok2) h612,
      fun s v h => does_put_z rfl rfl ((h.same 11 rfl).trans p618) (h.dep 5 rfl).shape (((Mono.drew _).trans h.mono).ok _ _ b656.ok2) h621, trivial⟩
  intro g685 ts v685 hts E685
  simp only [fillL, Nat.reduceAdd, List.setIfInBounds_toArray, List.set_cons_zero, List.set_cons_succ] at hts
  subst hts
  have T686 : Below w.heap.size w v685 := (below_toDrew T644).trans E685.below
  have l687 : q498 < v643.heap.size := b651.lt
  have l688 : q504 < v643.heap.size := b652.lt
  have l689 : q511 < v643.heap.size := b653.lt
  have l690 : q520 < v643.heap.size := b654.lt
  have l691 : q608 < v643.heap.size := b655.lt
  have l692 : q617 < v643.heap.size := b656.lt
  have b693 : Bx v685 q498 24 #[.bool na0, .slice A0 n0 c0] := (E685.far q498 b651.lt (nin2 n613 n622)).trans b651
  have b694 : Bx v685 q504 24 #[.bool na1, .slice A1 n1 c1] := (E685.far q504 b652.lt (nin2 n614 n623)).trans b652
  have b695 : Bx v685 q511 24 #[.bool false, .slice none 0 0] := (E685.far q511 b653.lt (nin2 n615 n624)).trans b653
  have b696 : Bx v685 q520 24 #[.bool false, .slice none 0 0] := (E685.far q520 b654.lt (nin2 n616 n625)).trans b654
  have f720 : Cz v685 (g685 2) ((zof (!(na0 == na1)) (M0 / M1)) - 1) := E685.facts 2 (by decide)
  have f723 : Cz v685 (g685 5) ((zof na0 (M0 % M1)) + (zof na1 M1)) := E685.facts 5 (by decide)
  obtain ⟨t724, x726, A727, m728, c729, e730, b725⟩ := put_info (E685.facts 6 (by decide)) p609 f720.shape
  have f731 : Cz v685 (.agg #[.bool x726, .slice A727 m728 c729]) ((zof (!(na0 == na1)) (M0 / M1)) - 1) := f720.at e730.symm
  obtain ⟨t732, x734, A735, m736, c737, e738, b733⟩ := put_info (E685.facts 7 (by decide)) p618 f723.shape
  have f739 : Cz v685 (.agg #[.bool x734, .slice A735 m736 c737]) ((zof na0 (M0 % M1)) + (zof na1 M1)) := f723.at e738.symm
  refine then_normal ?_
  refine wp_seq ?_
  have HB : w.heap.size ≤ v685.heap.size := T686.size
  refine wp_plan_any [.val (.cz ((zof (!(na0 == na1)) (M0 / M1)) - 1)), .val (.cz ((zof na0 (M0 % M1)) + (zof na1 M1))), .put 4 52, .put 5 53, .val (.is (.int .i64 0))] [4, 5] [q511, q520] w.heap.size (by kernel_rfl) (by kernel_rfl) (by kernel_rfl) ⟨p512, b695.lt, (nin1 n529), ⟨p521, b696.lt, (by simp), trivial⟩⟩ HB ?_ ?_
  · exact ⟨fun s v h => does_val rfl rfl (x_load_z ((h.same 10 rfl).trans p609) ((h.far q608 b725.lt (nin2 n615.symm n616.symm)).trans b725)) (f731.mono ((Mono.drew _).trans h.mono)),
      fun s v h => does_val rfl rfl (x_load_z ((h.same 11 rfl).trans p618) ((h.far q617 b733.lt (nin2 n624.symm n625.symm)).trans b733)) (f739.mono ((Mono.drew _).trans h.mono)),
      fun s v h => does_put_z rfl rfl ((h.same 4 rfl).trans p512) (h.dep 0 rfl).shape (((Mono.drew _).trans h.mono).ok _ _ b695.ok2) h517,
      fun s v h => does_put_z rfl rfl ((h.same 5 rfl).trans p521) (h.dep 1 rfl).shape (((Mono.drew _).trans h.mono).ok _ _ b696.ok2) h526,
      fun s v h => does_val rfl rfl (x_assign) rfl, trivial⟩
  intro g740 ts v740 hts E740
  simp only [fillL, Nat.reduceAdd, List.setIfInBounds_toArray, List.set_cons_zero, List.set_cons_succ] at hts
  subst hts
  have T741 : Below w.heap.size w v740 := (below_toDrew T686).trans E740.below
  have l742 : q498 < v685.heap.size := b693.lt
  have l743 : q504 < v685.heap.size := b694.lt
  have l744 : q511 < v685.heap.size := b695.lt
  have l745 : q520 < v685.heap.size := b696.lt
  have l746 : q608 < v685.heap.size := b725.lt
  have l747 : q617 < v685.heap.size := b733.lt
  have f781 : Cz v740 (g740 0) ((zof (!(na0 == na1)) (M0 / M1)) - 1) := E740.facts 0 (by decide)
  have f782 : Cz v740 (g740 1) ((zof na0 (M0 % M1)) + (zof na1 M1)) := E740.facts 1 (by decide)
  have e783 : g740 4 = (.int .i64 0) := E740.facts 4 (by decide)
  obtain ⟨t784, x786, A787, m788, c789, e790, b785⟩ := put_info (E740.facts 2 (by decide)) p512 f781.shape
  have f791 : Cz v740 (.agg #[.bool x786, .slice A787 m788 c789]) ((zof (!(na0 == na1)) (M0 / M1)) - 1) := f781.at e790.symm
  obtain ⟨t792, x794, A795, m796, c797, e798, b793⟩ := put_info (E740.facts 3 (by decide)) p521 f782.shape
  have f799 : Cz v740 (.agg #[.bool x794, .slice A795 m796 c797]) ((zof na0 (M0 % M1)) + (zof na1 M1)) := f782.at e798.symm
  refine then_normal ?_
  refine wp_ret ?_
  exact bodyPost_ret (ret_cct rfl p512 b785 p521 b793) rfl ⟨_, rfl, ⟨_, _, _, rfl, f791, f799, e783⟩, T741⟩

theorem zfloor_k {w : World} {x y : Value} {z u : Int} {N M : Nat} (h : Az N w x z) (h' : Az M w y u) (hN : N ≤ 35184372088820) (hM : M ≤ 35184372088820) (hu : u ≠ 0) :
    Calls Try.prog 42 #[x, y] w (Ret (.tup3 (.cz (fl z u)) (.cz (md z u)) (.is (.int .i64 0))) w) := by
  obtain ⟨na, A, n, c, a, rfl, hm, hz⟩ := h.parts
  obtain ⟨nb, A', n', c', b, rfl, hm', hz'⟩ := h'.parts
  have hb : 0 < b := by rcases Nat.eq_zero_or_pos b with h0 | h0; (subst h0; exact absurd (by rw [← hz']; cases nb <;> rfl) hu); exact h0
  rcases floor_ways (s := na) (t := nb) (a := a) hb hz hz' with ⟨d1, e1, e2⟩ | ⟨d1, d2, e1, e2⟩ | ⟨d1, d2, e1, e2⟩
  · rw [← e1, ← e2]
    exact zfloor_a hm hm' hN hb d1
  · rw [← e1, ← e2]
    exact zfloor_b hm hm' hN hb d1 (by rw [hz']; exact d2)
  · rw [← e1, ← e2]
    have := zfloor_c hm hm' hN hb hM d1 (by rw [hz']; exact d2)
    rwa [hz'] at this

end Go.Proofs.Ytdmahjbjlppeaaa
