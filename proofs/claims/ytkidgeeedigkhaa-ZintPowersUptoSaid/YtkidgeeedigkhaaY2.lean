/- Floors. -/
import Derived.Test.YtkidgeeedigkhaaY1
import Derived.Test.YtkidgeeedigkhaaA4
namespace Go.Proofs.Ytkidgeeedigkhaa
open Go.RowKit

set_option maxRecDepth 8000 in
theorem zfloor_a {w : World} {na0 : Bool} {A0 : Option Addr} {n0 c0 M0 N0 : Nat} (hm0 : Nz N0 w (.slice A0 n0 c0) M0) {na1 : Bool} {A1 : Option Addr} {n1 c1 M1 N1 : Nat} (hm1 : Nz N1 w (.slice A1 n1 c1) M1) (hN0 : N0 ≤ 35184372088820) (hb : 0 < M1) (d1 : ((zof na0 (M0 % M1)).sign == 0) = true)  : Calls Try.prog 24 #[.agg #[.bool na0, .slice A0 n0 c0], .agg #[.bool na1, .slice A1 n1 c1]] w (Ret (.tup3 (.cz (zof (!(na0 == na1)) (M0 / M1))) (.cz (zof na0 (M0 % M1))) (.is (.int .i64 0))) w) := by
  have ha0 : Az N0 w (.agg #[.bool na0, .slice A0 n0 c0]) (zof na0 M0) := Az.of_nz hm0
  have la0 := ha0.len
  have ha1 : Az N1 w (.agg #[.bool na1, .slice A1 n1 c1]) (zof na1 M1) := Az.of_nz hm1
  have la1 := ha1.len
  have T0 : Below w.heap.size w w := Below.refl _ _
  go_enter Try.func24, Try.ntmps24
  refine wp_seq ?_
  have HB : w.heap.size ≤ w.heap.size := T0.size
  refine wp_plan_seq [.new 2 (some (24, #[.bool na0, .slice A0 n0 c0])), .new 2 (some (24, #[.bool na1, .slice A1 n1 c1])), .new 2 (some (24, #[.bool false, .slice none 0 0])), .new 2 (some (24, #[.bool false, .slice none 0 0])), .val (.is (.int .i64 0))] [] [] w.heap.size (by kernel_rfl) (by kernel_rfl) trivial HB ?_ ?_
  · exact ⟨fun s v h => does_new rfl rfl (x_box_z (h.same 0 rfl)) (okz _ _ _ _) rfl (.inr rfl),
      fun s v h => does_new rfl rfl (x_box_z (h.same 1 rfl)) (okz _ _ _ _) rfl (.inr rfl),
      fun s v h => does_new rfl rfl x_alloc_z (okz _ _ _ _) rfl (.inr rfl),
      fun s v h => does_new rfl rfl x_alloc_z (okz _ _ _ _) rfl (.inr rfl),
      fun s v h => does_val rfl rfl (x_assign) rfl, trivial⟩
  intro g1 ts v1 hts E1
  simp only [fillL, Nat.reduceAdd, List.setIfInBounds_toArray, List.set_cons_zero, List.set_cons_succ] at hts
  subst hts
  have T2 : Below w.heap.size w v1 := T0.trans E1.below
  have f3 := ha0.mono E1.mono
  have f4 := hm0.mono E1.mono
  have f5 := ha1.mono E1.mono
  have f6 := hm1.mono E1.mono
  have e7 : g1 4 = (.int .i64 0) := E1.facts 4 (by decide)
  obtain ⟨q8, p9, l10, o11, b12⟩ : ∃ q, g1 0 = .pointer (some ⟨q, 0, none⟩) ∧ w.heap.size ≤ q ∧ OkB v1 q 2 ∧ Bx v1 q 24 #[.bool na0, .slice A0 n0 c0] := E1.facts 0 (by decide)
  have h13 : w.heap.size ≤ q8 := Nat.le_trans HB l10
  obtain ⟨q14, p15, l16, o17, b18⟩ : ∃ q, g1 1 = .pointer (some ⟨q, 0, none⟩) ∧ w.heap.size ≤ q ∧ OkB v1 q 2 ∧ Bx v1 q 24 #[.bool na1, .slice A1 n1 c1] := E1.facts 1 (by decide)
  have h19 : w.heap.size ≤ q14 := Nat.le_trans HB l16
  have n20 : q8 ≠ q14 := apart_ne (E1.apart 0 1 (by decide) (by decide) (by decide) ⟨_, _, rfl⟩ ⟨_, _, rfl⟩) p9 p15
  obtain ⟨q21, p22, l23, o24, b25⟩ : ∃ q, g1 2 = .pointer (some ⟨q, 0, none⟩) ∧ w.heap.size ≤ q ∧ OkB v1 q 2 ∧ Bx v1 q 24 #[.bool false, .slice none 0 0] := E1.facts 2 (by decide)
  have f26 : Cz v1 (.agg #[.bool false, .slice none 0 0]) 0 := cz_zero _
  have h27 : w.heap.size ≤ q21 := Nat.le_trans HB l23
  have n28 : q8 ≠ q21 := apart_ne (E1.apart 0 2 (by decide) (by decide) (by decide) ⟨_, _, rfl⟩ ⟨_, _, rfl⟩) p9 p22
  have n29 : q14 ≠ q21 := apart_ne (E1.apart 1 2 (by decide) (by decide) (by decide) ⟨_, _, rfl⟩ ⟨_, _, rfl⟩) p15 p22
  obtain ⟨q30, p31, l32, o33, b34⟩ : ∃ q, g1 3 = .pointer (some ⟨q, 0, none⟩) ∧ w.heap.size ≤ q ∧ OkB v1 q 2 ∧ Bx v1 q 24 #[.bool false, .slice none 0 0] := E1.facts 3 (by decide)
  have f35 : Cz v1 (.agg #[.bool false, .slice none 0 0]) 0 := cz_zero _
  have h36 : w.heap.size ≤ q30 := Nat.le_trans HB l32
  have n37 : q8 ≠ q30 := apart_ne (E1.apart 0 3 (by decide) (by decide) (by decide) ⟨_, _, rfl⟩ ⟨_, _, rfl⟩) p9 p31
  have n38 : q14 ≠ q30 := apart_ne (E1.apart 1 3 (by decide) (by decide) (by decide) ⟨_, _, rfl⟩ ⟨_, _, rfl⟩) p15 p31
  have n39 : q21 ≠ q30 := apart_ne (E1.apart 2 3 (by decide) (by decide) (by decide) ⟨_, _, rfl⟩ ⟨_, _, rfl⟩) p22 p31
  refine then_normal ?_
  refine wp_seq ?_
  have HB : w.heap.size ≤ v1.heap.size := T2.size
  refine wp_plan_seq [.val (.is (.pointer (some ⟨q8, 1, none⟩))), .val (.nz N0 M0), .val (.is (.pointer (some ⟨q14, 1, none⟩))), .val (.nz N1 M1), .val (.tup3 (.nz N0 (M0 / M1)) (.nz N0 (M0 % M1)) (.is (.int .i64 0))), .val (.tup3 (.nz N0 (M0 / M1)) (.nz N0 (M0 % M1)) (.is (.int .i64 0))), .val (.nz N0 (M0 / M1)), .val (.nz N0 (M0 % M1)), .val (.is (.int .i64 0)), .val (.nz N0 (M0 / M1)), .val (.nz N0 (M0 % M1)), .val (.is (.int .i64 0))] [] [] w.heap.size (by kernel_rfl) (by kernel_rfl) trivial HB ?_ ?_
  · exact ⟨fun s v h => does_val rfl rfl (x_fld (by decide) ((h.same 2 rfl).trans p9)) rfl,
      fun s v h => does_val rfl rfl (x_load_s (h.dep 0 rfl) ((h.far q8 b12.lt (by simp)).trans b12)) (f4.mono h.mono),
      fun s v h => does_val rfl rfl (x_fld (by decide) ((h.same 3 rfl).trans p15)) rfl,
      fun s v h => does_val rfl rfl (x_load_s (h.dep 2 rfl) ((h.far q14 b18.lt (by simp)).trans b18)) (f6.mono h.mono),
      fun s v h => does_call rfl rfl (x_call2 Try.call63) (ndiv_k (h.dep 1 rfl) (h.dep 3 rfl) (by omega) (by omega)),
      fun s v h => does_val rfl rfl (x_move) (h.dep 4 rfl),
      fun s v h => by obtain ⟨r0, r1, r2, e, f0, f1, f2⟩ := tup3_at (h.dep 5 rfl); exact does_val rfl rfl (x_ext e rfl) f0,
      fun s v h => by obtain ⟨r0, r1, r2, e, f0, f1, f2⟩ := tup3_at (h.dep 5 rfl); exact does_val rfl rfl (x_ext e rfl) f1,
      fun s v h => by obtain ⟨r0, r1, r2, e, f0, f1, f2⟩ := tup3_at (h.dep 5 rfl); exact does_val rfl rfl (x_ext e rfl) f2,
      fun s v h => does_val rfl rfl (x_assign) (h.dep 6 rfl),
      fun s v h => does_val rfl rfl (x_assign) (h.dep 7 rfl),
      fun s v h => does_val rfl rfl (x_assign) (h.dep 8 rfl), trivial⟩
  intro g40 ts v40 hts E40
  simp only [fillL, Nat.reduceAdd, List.setIfInBounds_toArray, List.set_cons_zero, List.set_cons_succ] at hts
  subst hts
  have T41 : Below w.heap.size w v40 := T2.trans E40.below
  have l42 : q8 < v1.heap.size := b12.lt
  have l43 : q14 < v1.heap.size := b18.lt
  have l44 : q21 < v1.heap.size := b25.lt
  have l45 : q30 < v1.heap.size := b34.lt
  have b46 : Bx v40 q8 24 #[.bool na0, .slice A0 n0 c0] := (E40.far q8 b12.lt (by simp)).trans b12
  have b47 : Bx v40 q14 24 #[.bool na1, .slice A1 n1 c1] := (E40.far q14 b18.lt (by simp)).trans b18
  have b48 : Bx v40 q21 24 #[.bool false, .slice none 0 0] := (E40.far q21 b25.lt (by simp)).trans b25
  have b49 : Bx v40 q30 24 #[.bool false, .slice none 0 0] := (E40.far q30 b34.lt (by simp)).trans b34
  have f50 := f3.mono E40.mono
  have f51 := f4.mono E40.mono
  have f52 := f5.mono E40.mono
  have f53 := f6.mono E40.mono
  have f54 := f26.mono E40.mono
  have f55 := f35.mono E40.mono
  have f56 : Nz N0 v40 (g40 1) M0 := E40.facts 1 (by decide)
  have f57 : Nz N1 v40 (g40 3) M1 := E40.facts 3 (by decide)
  have f58 : Nz N0 v40 (g40 6) (M0 / M1) := E40.facts 6 (by decide)
  have f59 : Nz N0 v40 (g40 7) (M0 % M1) := E40.facts 7 (by decide)
  have e60 : g40 8 = (.int .i64 0) := E40.facts 8 (by decide)
  have f61 : Nz N0 v40 (g40 9) (M0 / M1) := E40.facts 9 (by decide)
  have f62 : Nz N0 v40 (g40 10) (M0 % M1) := E40.facts 10 (by decide)
  have e63 : g40 11 = (.int .i64 0) := E40.facts 11 (by decide)
  refine then_normal ?_
  refine wp_seq ?_
  refine wp_seq ?_
  have HB : w.heap.size ≤ v40.heap.size := T41.size
  refine wp_plan_seq [.val (.is (.int .i64 0)), .val (.is (.bool false))] [] [] w.heap.size (by kernel_rfl) (by kernel_rfl) trivial HB ?_ ?_
  · exact ⟨fun s v h => does_val rfl rfl (x_move) ((h.same 9 rfl).trans e63),
      fun s v h => does_val rfl rfl (x_neq_err (h.dep 0 rfl) rfl) rfl, trivial⟩
  intro g64 ts v64 hts E64
  simp only [fillL, Nat.reduceAdd, List.setIfInBounds_toArray, List.set_cons_zero, List.set_cons_succ] at hts
  subst hts
  have T65 : Below w.heap.size w v64 := T41.trans E64.below
  have l66 : q8 < v40.heap.size := b46.lt
  have l67 : q14 < v40.heap.size := b47.lt
  have l68 : q21 < v40.heap.size := b48.lt
  have l69 : q30 < v40.heap.size := b49.lt
  have b70 : Bx v64 q8 24 #[.bool na0, .slice A0 n0 c0] := (E64.far q8 b46.lt (by simp)).trans b46
  have b71 : Bx v64 q14 24 #[.bool na1, .slice A1 n1 c1] := (E64.far q14 b47.lt (by simp)).trans b47
  have b72 : Bx v64 q21 24 #[.bool false, .slice none 0 0] := (E64.far q21 b48.lt (by simp)).trans b48
  have b73 : Bx v64 q30 24 #[.bool false, .slice none 0 0] := (E64.far q30 b49.lt (by simp)).trans b49
  have f74 := f50.mono E64.mono
  have f75 := f51.mono E64.mono
  have f76 := f52.mono E64.mono
  have f77 := f53.mono E64.mono
  have f78 := f54.mono E64.mono
  have f79 := f55.mono E64.mono
  have f80 := f56.mono E64.mono
  have f81 := f57.mono E64.mono
  have f82 := f58.mono E64.mono
  have f83 := f59.mono E64.mono
  have f84 := f61.mono E64.mono
  have f85 := f62.mono E64.mono
  have e86 : g64 0 = (.int .i64 0) := E64.facts 0 (by decide)
  have e87 : g64 1 = (.bool false) := E64.facts 1 (by decide)
  refine then_normal ?_
  refine wp_cond_false e87 ?_
  refine wp_skip ?_
  refine then_normal ?_
  refine wp_seq ?_
  have HB : w.heap.size ≤ v64.heap.size := T65.size
  refine wp_plan_any [.val (.is (.pointer (some ⟨q8, 0, none⟩))), .val (.is (.bool na0)), .val (.is (.pointer (some ⟨q14, 0, none⟩))), .val (.is (.bool na1)), .val (.is (.bool (!(na0 == na1)))), .val (.nz N0 (M0 / M1)), .val (.cz (zof (!(na0 == na1)) (M0 / M1))), .val (.is (.pointer (some ⟨q8, 0, none⟩))), .val (.is (.bool na0)), .val (.nz N0 (M0 % M1)), .val (.cz (zof na0 (M0 % M1))), .new 2 none, .new 2 none, .put 10 31, .put 11 35] [] [] w.heap.size (by kernel_rfl) (by kernel_rfl) (by kernel_rfl) trivial HB ?_ ?_
  · exact ⟨fun s v h => does_val rfl rfl (x_fld (by decide) ((h.same 2 rfl).trans p9)) rfl,
      fun s v h => does_val rfl rfl (x_load_b (h.dep 0 rfl) ((h.far q8 b70.lt (by simp)).trans b70)) rfl,
      fun s v h => does_val rfl rfl (x_fld (by decide) ((h.same 3 rfl).trans p15)) rfl,
      fun s v h => does_val rfl rfl (x_load_b (h.dep 2 rfl) ((h.far q14 b71.lt (by simp)).trans b71)) rfl,
      fun s v h => does_val rfl rfl (x_neq_bool (h.dep 1 rfl) (h.dep 3 rfl)) rfl,
      fun s v h => does_val rfl rfl (x_move) ((f84.mono ((Mono.drew _).trans h.mono)).at (h.same 7 rfl)),
      fun s v h => does_call rfl rfl (x_call2 Try.call53) (zmade_k (h.dep 4 rfl) (h.dep 5 rfl)),
      fun s v h => does_val rfl rfl (x_fld (by decide) ((h.same 2 rfl).trans p9)) rfl,
      fun s v h => does_val rfl rfl (x_load_b (h.dep 7 rfl) ((h.far q8 b70.lt (by simp)).trans b70)) rfl,
      fun s v h => does_val rfl rfl (x_move) ((f85.mono ((Mono.drew _).trans h.mono)).at (h.same 8 rfl)),
      fun s v h => does_call rfl rfl (x_call2 Try.call53) (zmade_k (h.dep 8 rfl) (h.dep 9 rfl)),
      fun s v h => does_new rfl rfl x_alloc_z (okz _ _ _ _) rfl (.inl rfl),
      fun s v h => does_new rfl rfl x_alloc_z (okz _ _ _ _) rfl (.inl rfl),
      fun s v h => by obtain ⟨q, e1, e2, e3⟩ := new_at (h.dep 11 rfl); exact does_put_z rfl rfl e1 (h.dep 6 rfl).shape e3 (Nat.le_trans HB e2),
      fun s v h => by obtain ⟨q, e1, e2, e3⟩ := new_at (h.dep 12 rfl); exact does_put_z rfl rfl e1 (h.dep 10 rfl).shape e3 (Nat.le_trans HB e2), trivial⟩
  intro g88 ts v88 hts E88
  simp only [fillL, Nat.reduceAdd, List.setIfInBounds_toArray, List.set_cons_zero, List.set_cons_succ] at hts
  subst hts
  have T89 : Below w.heap.size w v88 := (below_toDrew T65).trans E88.below
  have l90 : q8 < v64.heap.size := b70.lt
  have l91 : q14 < v64.heap.size := b71.lt
  have l92 : q21 < v64.heap.size := b72.lt
  have l93 : q30 < v64.heap.size := b73.lt
  have b94 : Bx v88 q8 24 #[.bool na0, .slice A0 n0 c0] := (E88.far q8 b70.lt (by simp)).trans b70
  have b95 : Bx v88 q14 24 #[.bool na1, .slice A1 n1 c1] := (E88.far q14 b71.lt (by simp)).trans b71
  have b96 : Bx v88 q21 24 #[.bool false, .slice none 0 0] := (E88.far q21 b72.lt (by simp)).trans b72
  have b97 : Bx v88 q30 24 #[.bool false, .slice none 0 0] := (E88.far q30 b73.lt (by simp)).trans b73
  have f98 := f74.mono ((Mono.drew _).trans E88.mono)
  have f99 := f75.mono ((Mono.drew _).trans E88.mono)
  have f100 := f76.mono ((Mono.drew _).trans E88.mono)
  have f101 := f77.mono ((Mono.drew _).trans E88.mono)
  have f102 := f78.mono ((Mono.drew _).trans E88.mono)
  have f103 := f79.mono ((Mono.drew _).trans E88.mono)
  have f104 := f80.mono ((Mono.drew _).trans E88.mono)
  have f105 := f81.mono ((Mono.drew _).trans E88.mono)
  have f106 := f82.mono ((Mono.drew _).trans E88.mono)
  have f107 := f83.mono ((Mono.drew _).trans E88.mono)
  have f108 := f84.mono ((Mono.drew _).trans E88.mono)
  have f109 := f85.mono ((Mono.drew _).trans E88.mono)
  have e110 : g88 1 = (.bool na0) := E88.facts 1 (by decide)
  have e111 : g88 3 = (.bool na1) := E88.facts 3 (by decide)
  have e112 : g88 4 = (.bool (!(na0 == na1))) := E88.facts 4 (by decide)
  have f113 : Nz N0 v88 (g88 5) (M0 / M1) := E88.facts 5 (by decide)
  have f114 : Cz v88 (g88 6) (zof (!(na0 == na1)) (M0 / M1)) := E88.facts 6 (by decide)
  have e115 : g88 8 = (.bool na0) := E88.facts 8 (by decide)
  have f116 : Nz N0 v88 (g88 9) (M0 % M1) := E88.facts 9 (by decide)
  have f117 : Cz v88 (g88 10) (zof na0 (M0 % M1)) := E88.facts 10 (by decide)
  obtain ⟨q118, p119, l120, o121⟩ : ∃ q, g88 11 = .pointer (some ⟨q, 0, none⟩) ∧ v64.heap.size ≤ q ∧ OkB v88 q 2 := E88.facts 11 (by decide)
  have h122 : w.heap.size ≤ q118 := Nat.le_trans HB l120
  have n123 : q8 ≠ q118 := by omega
  have n124 : q14 ≠ q118 := by omega
  have n125 : q21 ≠ q118 := by omega
  have n126 : q30 ≠ q118 := by omega
  obtain ⟨q127, p128, l129, o130⟩ : ∃ q, g88 12 = .pointer (some ⟨q, 0, none⟩) ∧ v64.heap.size ≤ q ∧ OkB v88 q 2 := E88.facts 12 (by decide)
  have h131 : w.heap.size ≤ q127 := Nat.le_trans HB l129
  have n132 : q8 ≠ q127 := by omega
  have n133 : q14 ≠ q127 := by omega
  have n134 : q21 ≠ q127 := by omega
  have n135 : q30 ≠ q127 := by omega
  have n136 : q118 ≠ q127 := apart_ne (E88.apart 11 12 (by decide) (by decide) (by decide) ⟨_, _, rfl⟩ ⟨_, _, rfl⟩) p119 p128
  obtain ⟨t137, x139, A140, m141, c142, e143, b138⟩ := put_info (E88.facts 13 (by decide)) p119 f114.shape
  have f144 : Cz v88 (.agg #[.bool x139, .slice A140 m141 c142]) (zof (!(na0 == na1)) (M0 / M1)) := f114.at e143.symm
  obtain ⟨t145, x147, A148, m149, c150, e151, b146⟩ := put_info (E88.facts 14 (by decide)) p128 f117.shape
  have f152 : Cz v88 (.agg #[.bool x147, .slice A148 m149 c150]) (zof na0 (M0 % M1)) := f117.at e151.symm
  refine then_normal ?_
  refine wp_seq ?_
  refine wp_seq ?_
  have HB : w.heap.size ≤ v88.heap.size := T89.size
  refine wp_plan_any [.val (.cz (zof na0 (M0 % M1))), .val (.is (.int .i64 (zof na0 (M0 % M1)).sign)), .val (.is (.bool false)), .val (.is (.bool false)), .val .any, .val .any, .val .any, .val .any, .val .any, .val (.is (.bool false))] [] [] w.heap.size (by kernel_rfl) (by kernel_rfl) (by kernel_rfl) trivial HB ?_ ?_
  · exact ⟨fun s v h => does_val rfl rfl (x_load_z ((h.same 11 rfl).trans p128) ((h.far q127 b146.lt (by simp)).trans b146)) (f152.mono ((Mono.drew _).trans h.mono)),
      fun s v h => does_call rfl rfl (x_call1 Try.call39) (sign_k ((h.dep 0 rfl).az (N := N0) (by rw [zof_abs]; exact Nat.le_trans (dl_le (Nat.mod_le M0 M1)) hm0.len))),
      fun s v h => does_val rfl rfl (x_neq_int (h.dep 1 rfl) rfl) (congrArg (fun x => Value.bool (!x)) d1),
      fun s v h => does_val rfl rfl (x_move) (h.dep 2 rfl),
      fun s v h => does_skip rfl (wanted_by (b := false) (want := true) rfl rfl (h.dep 3 rfl)) trivial,
      fun s v h => does_skip rfl (wanted_by (b := false) (want := true) rfl rfl (h.dep 3 rfl)) trivial,
      fun s v h => does_skip rfl (wanted_by (b := false) (want := true) rfl rfl (h.dep 3 rfl)) trivial,
      fun s v h => does_skip rfl (wanted_by (b := false) (want := true) rfl rfl (h.dep 3 rfl)) trivial,
      fun s v h => does_skip rfl (wanted_by (b := false) (want := true) rfl rfl (h.dep 3 rfl)) trivial,
      fun s v h => does_val rfl rfl (x_pick (h.dep 3 rfl)) rfl, trivial⟩
  intro g153 ts v153 hts E153
  simp only [fillL, Nat.reduceAdd, List.setIfInBounds_toArray, List.set_cons_zero, List.set_cons_succ] at hts
  subst hts
  have T154 : Below w.heap.size w v153 := (below_toDrew T89).trans E153.below
  have l155 : q8 < v88.heap.size := b94.lt
  have l156 : q14 < v88.heap.size := b95.lt
  have l157 : q21 < v88.heap.size := b96.lt
  have l158 : q30 < v88.heap.size := b97.lt
  have l159 : q118 < v88.heap.size := b138.lt
  have l160 : q127 < v88.heap.size := b146.lt
  have b161 : Bx v153 q8 24 #[.bool na0, .slice A0 n0 c0] := (E153.far q8 b94.lt (by simp)).trans b94
  have b162 : Bx v153 q14 24 #[.bool na1, .slice A1 n1 c1] := (E153.far q14 b95.lt (by simp)).trans b95
  have b163 : Bx v153 q21 24 #[.bool false, .slice none 0 0] := (E153.far q21 b96.lt (by simp)).trans b96
  have b164 : Bx v153 q30 24 #[.bool false, .slice none 0 0] := (E153.far q30 b97.lt (by simp)).trans b97
  have b165 : Bx v153 q118 t137 #[.bool x139, .slice A140 m141 c142] := (E153.far q118 b138.lt (by simp)).trans b138
  have b166 : Bx v153 q127 t145 #[.bool x147, .slice A148 m149 c150] := (E153.far q127 b146.lt (by simp)).trans b146
  have f167 := f98.mono ((Mono.drew _).trans E153.mono)
  have f168 := f99.mono ((Mono.drew _).trans E153.mono)
  have f169 := f100.mono ((Mono.drew _).trans E153.mono)
  have f170 := f101.mono ((Mono.drew _).trans E153.mono)
  have f171 := f102.mono ((Mono.drew _).trans E153.mono)
  have f172 := f103.mono ((Mono.drew _).trans E153.mono)
  have f173 := f104.mono ((Mono.drew _).trans E153.mono)
  have f174 := f105.mono ((Mono.drew _).trans E153.mono)
  have f175 := f106.mono ((Mono.drew _).trans E153.mono)
  have f176 := f107.mono ((Mono.drew _).trans E153.mono)
  have f177 := f108.mono ((Mono.drew _).trans E153.mono)
  have f178 := f109.mono ((Mono.drew _).trans E153.mono)
  have f179 := f113.mono ((Mono.drew _).trans E153.mono)
  have f180 := f114.mono ((Mono.drew _).trans E153.mono)
  have f181 := f116.mono ((Mono.drew _).trans E153.mono)
  have f182 := f117.mono ((Mono.drew _).trans E153.mono)
  have f183 := f144.mono ((Mono.drew _).trans E153.mono)
  have f184 := f152.mono ((Mono.drew _).trans E153.mono)
  have f185 : Cz v153 (g153 0) (zof na0 (M0 % M1)) := E153.facts 0 (by decide)
  have e186 : g153 1 = (.int .i64 (zof na0 (M0 % M1)).sign) := E153.facts 1 (by decide)
  have e187 : g153 2 = (.bool false) := E153.facts 2 (by decide)
  have e188 : g153 3 = (.bool false) := E153.facts 3 (by decide)
  have e189 : g153 9 = (.bool false) := E153.facts 9 (by decide)
  refine then_normal ?_
  refine wp_cond_false e189 ?_
  refine wp_skip ?_
  refine then_normal ?_
  refine wp_seq ?_
  have HB : w.heap.size ≤ v153.heap.size := T154.size
  refine wp_plan_any [.val (.cz (zof (!(na0 == na1)) (M0 / M1))), .val (.cz (zof na0 (M0 % M1))), .put 4 52, .put 5 53, .val (.is (.int .i64 0))] [4, 5] [q21, q30] w.heap.size (by kernel_rfl) (by kernel_rfl) (by kernel_rfl) ⟨p22, b163.lt, (nin1 n39), ⟨p31, b164.lt, (by simp), trivial⟩⟩ HB ?_ ?_
  · exact ⟨fun s v h => does_val rfl rfl (x_load_z ((h.same 10 rfl).trans p119) ((h.far q118 b165.lt (nin2 n125.symm n126.symm)).trans b165)) (f183.mono ((Mono.drew _).trans h.mono)),
      fun s v h => does_val rfl rfl (x_load_z ((h.same 11 rfl).trans p128) ((h.far q127 b166.lt (nin2 n134.symm n135.symm)).trans b166)) (f184.mono ((Mono.drew _).trans h.mono)),
      fun s v h => does_put_z rfl rfl ((h.same 4 rfl).trans p22) (h.dep 0 rfl).shape (((Mono.drew _).trans h.mono).ok _ _ b163.ok2) h27,
      fun s v h => does_put_z rfl rfl ((h.same 5 rfl).trans p31) (h.dep 1 rfl).shape (((Mono.drew _).trans h.mono).ok _ _ b164.ok2) h36,
      fun s v h => does_val rfl rfl (x_assign) rfl, trivial⟩
  intro g190 ts v190 hts E190
  simp only [fillL, Nat.reduceAdd, List.setIfInBounds_toArray, List.set_cons_zero, List.set_cons_succ] at hts
  subst hts
  have T191 : Below w.heap.size w v190 := (below_toDrew T154).trans E190.below
  have l192 : q8 < v153.heap.size := b161.lt
  have l193 : q14 < v153.heap.size := b162.lt
  have l194 : q21 < v153.heap.size := b163.lt
  have l195 : q30 < v153.heap.size := b164.lt
  have l196 : q118 < v153.heap.size := b165.lt
  have l197 : q127 < v153.heap.size := b166.lt
  have b198 : Bx v190 q8 24 #[.bool na0, .slice A0 n0 c0] := (E190.far q8 b161.lt (nin2 n28 n37)).trans b161
  have b199 : Bx v190 q14 24 #[.bool na1, .slice A1 n1 c1] := (E190.far q14 b162.lt (nin2 n29 n38)).trans b162
  have b200 : Bx v190 q118 t137 #[.bool x139, .slice A140 m141 c142] := (E190.far q118 b165.lt (nin2 n125.symm n126.symm)).trans b165
  have b201 : Bx v190 q127 t145 #[.bool x147, .slice A148 m149 c150] := (E190.far q127 b166.lt (nin2 n134.symm n135.symm)).trans b166
  have f202 := f167.mono ((Mono.drew _).trans E190.mono)
  have f203 := f168.mono ((Mono.drew _).trans E190.mono)
  have f204 := f169.mono ((Mono.drew _).trans E190.mono)
  have f205 := f170.mono ((Mono.drew _).trans E190.mono)
  have f206 := f171.mono ((Mono.drew _).trans E190.mono)
  have f207 := f172.mono ((Mono.drew _).trans E190.mono)
  have f208 := f173.mono ((Mono.drew _).trans E190.mono)
  have f209 := f174.mono ((Mono.drew _).trans E190.mono)
  have f210 := f175.mono ((Mono.drew _).trans E190.mono)
  have f211 := f176.mono ((Mono.drew _).trans E190.mono)
  have f212 := f177.mono ((Mono.drew _).trans E190.mono)
  have f213 := f178.mono ((Mono.drew _).trans E190.mono)
  have f214 := f179.mono ((Mono.drew _).trans E190.mono)
  have f215 := f180.mono ((Mono.drew _).trans E190.mono)
  have f216 := f181.mono ((Mono.drew _).trans E190.mono)
  have f217 := f182.mono ((Mono.drew _).trans E190.mono)
  have f218 := f183.mono ((Mono.drew _).trans E190.mono)
  have f219 := f184.mono ((Mono.drew _).trans E190.mono)
  have f220 := f185.mono ((Mono.drew _).trans E190.mono)
  have f221 : Cz v190 (g190 0) (zof (!(na0 == na1)) (M0 / M1)) := E190.facts 0 (by decide)
  have f222 : Cz v190 (g190 1) (zof na0 (M0 % M1)) := E190.facts 1 (by decide)
  have e223 : g190 4 = (.int .i64 0) := E190.facts 4 (by decide)
  obtain ⟨t224, x226, A227, m228, c229, e230, b225⟩ := put_info (E190.facts 2 (by decide)) p22 f221.shape
  have f231 : Cz v190 (.agg #[.bool x226, .slice A227 m228 c229]) (zof (!(na0 == na1)) (M0 / M1)) := f221.at e230.symm
  obtain ⟨t232, x234, A235, m236, c237, e238, b233⟩ := put_info (E190.facts 3 (by decide)) p31 f222.shape
  have f239 : Cz v190 (.agg #[.bool x234, .slice A235 m236 c237]) (zof na0 (M0 % M1)) := f222.at e238.symm
  refine then_normal ?_
  refine wp_ret ?_
  exact bodyPost_ret (ret_cct rfl p22 b225 p31 b233) rfl ⟨_, rfl, ⟨_, _, _, rfl, f231, f239, e223⟩, T191⟩

set_option maxRecDepth 8000 in
theorem zfloor_b {w : World} {na0 : Bool} {A0 : Option Addr} {n0 c0 M0 N0 : Nat} (hm0 : Nz N0 w (.slice A0 n0 c0) M0) {na1 : Bool} {A1 : Option Addr} {n1 c1 M1 N1 : Nat} (hm1 : Nz N1 w (.slice A1 n1 c1) M1) (hN0 : N0 ≤ 35184372088820) (hb : 0 < M1) (d1 : ((zof na0 (M0 % M1)).sign == 0) = false) (d2 : ((zof na0 (M0 % M1)).sign == (zof na1 M1).sign) = true)  : Calls Try.prog 24 #[.agg #[.bool na0, .slice A0 n0 c0], .agg #[.bool na1, .slice A1 n1 c1]] w (Ret (.tup3 (.cz (zof (!(na0 == na1)) (M0 / M1))) (.cz (zof na0 (M0 % M1))) (.is (.int .i64 0))) w) := by
  have ha0 : Az N0 w (.agg #[.bool na0, .slice A0 n0 c0]) (zof na0 M0) := Az.of_nz hm0
  have la0 := ha0.len
  have ha1 : Az N1 w (.agg #[.bool na1, .slice A1 n1 c1]) (zof na1 M1) := Az.of_nz hm1
  have la1 := ha1.len
  have T0 : Below w.heap.size w w := Below.refl _ _
  go_enter Try.func24, Try.ntmps24
  refine wp_seq ?_
  have HB : w.heap.size ≤ w.heap.size := T0.size
  refine wp_plan_seq [.new 2 (some (24, #[.bool na0, .slice A0 n0 c0])), .new 2 (some (24, #[.bool na1, .slice A1 n1 c1])), .new 2 (some (24, #[.bool false, .slice none 0 0])), .new 2 (some (24, #[.bool false, .slice none 0 0])), .val (.is (.int .i64 0))] [] [] w.heap.size (by kernel_rfl) (by kernel_rfl) trivial HB ?_ ?_
  · exact ⟨fun s v h => does_new rfl rfl (x_box_z (h.same 0 rfl)) (okz _ _ _ _) rfl (.inr rfl),
      fun s v h => does_new rfl rfl (x_box_z (h.same 1 rfl)) (okz _ _ _ _) rfl (.inr rfl),
      fun s v h => does_new rfl rfl x_alloc_z (okz _ _ _ _) rfl (.inr rfl),
      fun s v h => does_new rfl rfl x_alloc_z (okz _ _ _ _) rfl (.inr rfl),
      fun s v h => does_val rfl rfl (x_assign) rfl, trivial⟩
  intro g240 ts v240 hts E240
  simp only [fillL, Nat.reduceAdd, List.setIfInBounds_toArray, List.set_cons_zero, List.set_cons_succ] at hts
  subst hts
  have T241 : Below w.heap.size w v240 := T0.trans E240.below
  have f242 := ha0.mono E240.mono
  have f243 := hm0.mono E240.mono
  have f244 := ha1.mono E240.mono
  have f245 := hm1.mono E240.mono
  have e246 : g240 4 = (.int .i64 0) := E240.facts 4 (by decide)
  obtain ⟨q247, p248, l249, o250, b251⟩ : ∃ q, g240 0 = .pointer (some ⟨q, 0, none⟩) ∧ w.heap.size ≤ q ∧ OkB v240 q 2 ∧ Bx v240 q 24 #[.bool na0, .slice A0 n0 c0] := E240.facts 0 (by decide)
  have h252 : w.heap.size ≤ q247 := Nat.le_trans HB l249
  obtain ⟨q253, p254, l255, o256, b257⟩ : ∃ q, g240 1 = .pointer (some ⟨q, 0, none⟩) ∧ w.heap.size ≤ q ∧ OkB v240 q 2 ∧ Bx v240 q 24 #[.bool na1, .slice A1 n1 c1] := E240.facts 1 (by decide)
  have h258 : w.heap.size ≤ q253 := Nat.le_trans HB l255
  have n259 : q247 ≠ q253 := apart_ne (E240.apart 0 1 (by decide) (by decide) (by decide) ⟨_, _, rfl⟩ ⟨_, _, rfl⟩) p248 p254
  obtain ⟨q260, p261, l262, o263, b264⟩ : ∃ q, g240 2 = .pointer (some ⟨q, 0, none⟩) ∧ w.heap.size ≤ q ∧ OkB v240 q 2 ∧ Bx v240 q 24 #[.bool false, .slice none 0 0] := E240.facts 2 (by decide)
  have f265 : Cz v240 (.agg #[.bool false, .slice none 0 0]) 0 := cz_zero _
  have h266 : w.heap.size ≤ q260 := Nat.le_trans HB l262
  have n267 : q247 ≠ q260 := apart_ne (E240.apart 0 2 (by decide) (by decide) (by decide) ⟨_, _, rfl⟩ ⟨_, _, rfl⟩) p248 p261
  have n268 : q253 ≠ q260 := apart_ne (E240.apart 1 2 (by decide) (by decide) (by decide) ⟨_, _, rfl⟩ ⟨_, _, rfl⟩) p254 p261
  obtain ⟨q269, p270, l271, o272, b273⟩ : ∃ q, g240 3 = .pointer (some ⟨q, 0, none⟩) ∧ w.heap.size ≤ q ∧ OkB v240 q 2 ∧ Bx v240 q 24 #[.bool false, .slice none 0 0] := E240.facts 3 (by decide)
  have f274 : Cz v240 (.agg #[.bool false, .slice none 0 0]) 0 := cz_zero _
  have h275 : w.heap.size ≤ q269 := Nat.le_trans HB l271
  have n276 : q247 ≠ q269 := apart_ne (E240.apart 0 3 (by decide) (by decide) (by decide) ⟨_, _, rfl⟩ ⟨_, _, rfl⟩) p248 p270
  have n277 : q253 ≠ q269 := apart_ne (E240.apart 1 3 (by decide) (by decide) (by decide) ⟨_, _, rfl⟩ ⟨_, _, rfl⟩) p254 p270
  have n278 : q260 ≠ q269 := apart_ne (E240.apart 2 3 (by decide) (by decide) (by decide) ⟨_, _, rfl⟩ ⟨_, _, rfl⟩) p261 p270
  refine then_normal ?_
  refine wp_seq ?_
  have HB : w.heap.size ≤ v240.heap.size := T241.size
  refine wp_plan_seq [.val (.is (.pointer (some ⟨q247, 1, none⟩))), .val (.nz N0 M0), .val (.is (.pointer (some ⟨q253, 1, none⟩))), .val (.nz N1 M1), .val (.tup3 (.nz N0 (M0 / M1)) (.nz N0 (M0 % M1)) (.is (.int .i64 0))), .val (.tup3 (.nz N0 (M0 / M1)) (.nz N0 (M0 % M1)) (.is (.int .i64 0))), .val (.nz N0 (M0 / M1)), .val (.nz N0 (M0 % M1)), .val (.is (.int .i64 0)), .val (.nz N0 (M0 / M1)), .val (.nz N0 (M0 % M1)), .val (.is (.int .i64 0))] [] [] w.heap.size (by kernel_rfl) (by kernel_rfl) trivial HB ?_ ?_
  · exact ⟨fun s v h => does_val rfl rfl (x_fld (by decide) ((h.same 2 rfl).trans p248)) rfl,
      fun s v h => does_val rfl rfl (x_load_s (h.dep 0 rfl) ((h.far q247 b251.lt (by simp)).trans b251)) (f243.mono h.mono),
      fun s v h => does_val rfl rfl (x_fld (by decide) ((h.same 3 rfl).trans p254)) rfl,
      fun s v h => does_val rfl rfl (x_load_s (h.dep 2 rfl) ((h.far q253 b257.lt (by simp)).trans b257)) (f245.mono h.mono),
      fun s v h => does_call rfl rfl (x_call2 Try.call63) (ndiv_k (h.dep 1 rfl) (h.dep 3 rfl) (by omega) (by omega)),
      fun s v h => does_val rfl rfl (x_move) (h.dep 4 rfl),
      fun s v h => by obtain ⟨r0, r1, r2, e, f0, f1, f2⟩ := tup3_at (h.dep 5 rfl); exact does_val rfl rfl (x_ext e rfl) f0,
      fun s v h => by obtain ⟨r0, r1, r2, e, f0, f1, f2⟩ := tup3_at (h.dep 5 rfl); exact does_val rfl rfl (x_ext e rfl) f1,
      fun s v h => by obtain ⟨r0, r1, r2, e, f0, f1, f2⟩ := tup3_at (h.dep 5 rfl); exact does_val rfl rfl (x_ext e rfl) f2,
      fun s v h => does_val rfl rfl (x_assign) (h.dep 6 rfl),
      fun s v h => does_val rfl rfl (x_assign) (h.dep 7 rfl),
      fun s v h => does_val rfl rfl (x_assign) (h.dep 8 rfl), trivial⟩
  intro g279 ts v279 hts E279
  simp only [fillL, Nat.reduceAdd, List.setIfInBounds_toArray, List.set_cons_zero, List.set_cons_succ] at hts
  subst hts
  have T280 : Below w.heap.size w v279 := T241.trans E279.below
  have l281 : q247 < v240.heap.size := b251.lt
  have l282 : q253 < v240.heap.size := b257.lt
  have l283 : q260 < v240.heap.size := b264.lt
  have l284 : q269 < v240.heap.size := b273.lt
  have b285 : Bx v279 q247 24 #[.bool na0, .slice A0 n0 c0] := (E279.far q247 b251.lt (by simp)).trans b251
  have b286 : Bx v279 q253 24 #[.bool na1, .slice A1 n1 c1] := (E279.far q253 b257.lt (by simp)).trans b257
  have b287 : Bx v279 q260 24 #[.bool false, .slice none 0 0] := (E279.far q260 b264.lt (by simp)).trans b264
  have b288 : Bx v279 q269 24 #[.bool false, .slice none 0 0] := (E279.far q269 b273.lt (by simp)).trans b273
  have f289 := f242.mono E279.mono
  have f290 := f243.mono E279.mono
  have f291 := f244.mono E279.mono
  have f292 := f245.mono E279.mono
  have f293 := f265.mono E279.mono
  have f294 := f274.mono E279.mono
  have f295 : Nz N0 v279 (g279 1) M0 := E279.facts 1 (by decide)
  have f296 : Nz N1 v279 (g279 3) M1 := E279.facts 3 (by decide)
  have f297 : Nz N0 v279 (g279 6) (M0 / M1) := E279.facts 6 (by decide)
  have f298 : Nz N0 v279 (g279 7) (M0 % M1) := E279.facts 7 (by decide)
  have e299 : g279 8 = (.int .i64 0) := E279.facts 8 (by decide)
  have f300 : Nz N0 v279 (g279 9) (M0 / M1) := E279.facts 9 (by decide)
  have f301 : Nz N0 v279 (g279 10) (M0 % M1) := E279.facts 10 (by decide)
  have e302 : g279 11 = (.int .i64 0) := E279.facts 11 (by decide)
  refine then_normal ?_
  refine wp_seq ?_
  refine wp_seq ?_
  have HB : w.heap.size ≤ v279.heap.size := T280.size
  refine wp_plan_seq [.val (.is (.int .i64 0)), .val (.is (.bool false))] [] [] w.heap.size (by kernel_rfl) (by kernel_rfl) trivial HB ?_ ?_
  · exact ⟨fun s v h => does_val rfl rfl (x_move) ((h.same 9 rfl).trans e302),
      fun s v h => does_val rfl rfl (x_neq_err (h.dep 0 rfl) rfl) rfl, trivial⟩
  intro g303 ts v303 hts E303
  simp only [fillL, Nat.reduceAdd, List.setIfInBounds_toArray, List.set_cons_zero, List.set_cons_succ] at hts
  subst hts
  have T304 : Below w.heap.size w v303 := T280.trans E303.below
  have l305 : q247 < v279.heap.size := b285.lt
  have l306 : q253 < v279.heap.size := b286.lt
  have l307 : q260 < v279.heap.size := b287.lt
  have l308 : q269 < v279.heap.size := b288.lt
  have b309 : Bx v303 q247 24 #[.bool na0, .slice A0 n0 c0] := (E303.far q247 b285.lt (by simp)).trans b285
  have b310 : Bx v303 q253 24 #[.bool na1, .slice A1 n1 c1] := (E303.far q253 b286.lt (by simp)).trans b286
  have b311 : Bx v303 q260 24 #[.bool false, .slice none 0 0] := (E303.far q260 b287.lt (by simp)).trans b287
  have b312 : Bx v303 q269 24 #[.bool false, .slice none 0 0] := (E303.far q269 b288.lt (by simp)).trans b288
  have f313 := f289.mono E303.mono
  have f314 := f290.mono E303.mono
  have f315 := f291.mono E303.mono
  have f316 := f292.mono E303.mono
  have f317 := f293.mono E303.mono
  have f318 := f294.mono E303.mono
  have f319 := f295.mono E303.mono
  have f320 := f296.mono E303.mono
  have f321 := f297.mono E303.mono
  have f322 := f298.mono E303.mono
  have f323 := f300.mono E303.mono
  have f324 := f301.mono E303.mono
  have e325 : g303 0 = (.int .i64 0) := E303.facts 0 (by decide)
  have e326 : g303 1 = (.bool false) := E303.facts 1 (by decide)
  refine then_normal ?_
  refine wp_cond_false e326 ?_
  refine wp_skip ?_
  refine then_normal ?_
  refine wp_seq ?_
  have HB : w.heap.size ≤ v303.heap.size := T304.size
  refine wp_plan_any [.val (.is (.pointer (some ⟨q247, 0, none⟩))), .val (.is (.bool na0)), .val (.is (.pointer (some ⟨q253, 0, none⟩))), .val (.is (.bool na1)), .val (.is (.bool (!(na0 == na1)))), .val (.nz N0 (M0 / M1)), .val (.cz (zof (!(na0 == na1)) (M0 / M1))), .val (.is (.pointer (some ⟨q247, 0, none⟩))), .val (.is (.bool na0)), .val (.nz N0 (M0 % M1)), .val (.cz (zof na0 (M0 % M1))), .new 2 none, .new 2 none, .put 10 31, .put 11 35] [] [] w.heap.size (by kernel_rfl) (by kernel_rfl) (by kernel_rfl) trivial HB ?_ ?_
  · exact ⟨fun s v h => does_val rfl rfl (x_fld (by decide) ((h.same 2 rfl).trans p248)) rfl,
      fun s v h => does_val rfl rfl (x_load_b (h.dep 0 rfl) ((h.far q247 b309.lt (by simp)).trans b309)) rfl,
      fun s v h => does_val rfl rfl (x_fld (by decide) ((h.same 3 rfl).trans p254)) rfl,
      fun s v h => does_val rfl rfl (x_load_b (h.dep 2 rfl) ((h.far q253 b310.lt (by simp)).trans b310)) rfl,
      fun s v h => does_val rfl rfl (x_neq_bool (h.dep 1 rfl) (h.dep 3 rfl)) rfl,
      fun s v h => does_val rfl rfl (x_move) ((f323.mono ((Mono.drew _).trans h.mono)).at (h.same 7 rfl)),
      fun s v h => does_call rfl rfl (x_call2 Try.call53) (zmade_k (h.dep 4 rfl) (h.dep 5 rfl)),
      fun s v h => does_val rfl rfl (x_fld (by decide) ((h.same 2 rfl).trans p248)) rfl,
      fun s v h => does_val rfl rfl (x_load_b (h.dep 7 rfl) ((h.far q247 b309.lt (by simp)).trans b309)) rfl,
      fun s v h => does_val rfl rfl (x_move) ((f324.mono ((Mono.drew _).trans h.mono)).at (h.same 8 rfl)),
      fun s v h => does_call rfl rfl (x_call2 Try.call53) (zmade_k (h.dep 8 rfl) (h.dep 9 rfl)),
      fun s v h => does_new rfl rfl x_alloc_z (okz _ _ _ _) rfl (.inl rfl),
      fun s v h => does_new rfl rfl x_alloc_z (okz _ _ _ _) rfl (.inl rfl),
      fun s v h => by obtain ⟨q, e1, e2, e3⟩ := new_at (h.dep 11 rfl); exact does_put_z rfl rfl e1 (h.dep 6 rfl).shape e3 (Nat.le_trans HB e2),
      fun s v h => by obtain ⟨q, e1, e2, e3⟩ := new_at (h.dep 12 rfl); exact does_put_z rfl rfl e1 (h.dep 10 rfl).shape e3 (Nat.le_trans HB e2), trivial⟩
  intro g327 ts v327 hts E327
  simp only [fillL, Nat.reduceAdd, List.setIfInBounds_toArray, List.set_cons_zero, List.set_cons_succ] at hts
  subst hts
  have T328 : Below w.heap.size w v327 := (below_toDrew T304).trans E327.below
  have l329 : q247 < v303.heap.size := b309.lt
  have l330 : q253 < v303.heap.size := b310.lt
  have l331 : q260 < v303.heap.size := b311.lt
  have l332 : q269 < v303.heap.size := b312.lt
  have b333 : Bx v327 q247 24 #[.bool na0, .slice A0 n0 c0] := (E327.far q247 b309.lt (by simp)).trans b309
  have b334 : Bx v327 q253 24 #[.bool na1, .slice A1 n1 c1] := (E327.far q253 b310.lt (by simp)).trans b310
  have b335 : Bx v327 q260 24 #[.bool false, .slice none 0 0] := (E327.far q260 b311.lt (by simp)).trans b311
  have b336 : Bx v327 q269 24 #[.bool false, .slice none 0 0] := (E327.far q269 b312.lt (by simp)).trans b312
  have f337 := f313.mono ((Mono.drew _).trans E327.mono)
  have f338 := f314.mono ((Mono.drew _).trans E327.mono)
  have f339 := f315.mono ((Mono.drew _).trans E327.mono)
  have f340 := f316.mono ((Mono.drew _).trans E327.mono)
  have f341 := f317.mono ((Mono.drew _).trans E327.mono)
  have f342 := f318.mono ((Mono.drew _).trans E327.mono)
  have f343 := f319.mono ((Mono.drew _).trans E327.mono)
  have f344 := f320.mono ((Mono.drew _).trans E327.mono)
  have f345 := f321.mono ((Mono.drew _).trans E327.mono)
  have f346 := f322.mono ((Mono.drew _).trans E327.mono)
  have f347 := f323.mono ((Mono.drew _).trans E327.mono)
  have f348 := f324.mono ((Mono.drew _).trans E327.mono)
  have e349 : g327 1 = (.bool na0) := E327.facts 1 (by decide)
  have e350 : g327 3 = (.bool na1) := E327.facts 3 (by decide)
  have e351 : g327 4 = (.bool (!(na0 == na1))) := E327.facts 4 (by decide)
  have f352 : Nz N0 v327 (g327 5) (M0 / M1) := E327.facts 5 (by decide)
  have f353 : Cz v327 (g327 6) (zof (!(na0 == na1)) (M0 / M1)) := E327.facts 6 (by decide)
  have e354 : g327 8 = (.bool na0) := E327.facts 8 (by decide)
  have f355 : Nz N0 v327 (g327 9) (M0 % M1) := E327.facts 9 (by decide)
  have f356 : Cz v327 (g327 10) (zof na0 (M0 % M1)) := E327.facts 10 (by decide)
  obtain ⟨q357, p358, l359, o360⟩ : ∃ q, g327 11 = .pointer (some ⟨q, 0, none⟩) ∧ v303.heap.size ≤ q ∧ OkB v327 q 2 := E327.facts 11 (by decide)
  have h361 : w.heap.size ≤ q357 := Nat.le_trans HB l359
  have n362 : q247 ≠ q357 := by omega
  have n363 : q253 ≠ q357 := by omega
  have n364 : q260 ≠ q357 := by omega
  have n365 : q269 ≠ q357 := by omega
  obtain ⟨q366, p367, l368, o369⟩ : ∃ q, g327 12 = .pointer (some ⟨q, 0, none⟩) ∧ v303.heap.size ≤ q ∧ OkB v327 q 2 := E327.facts 12 (by decide)
  have h370 : w.heap.size ≤ q366 := Nat.le_trans HB l368
  have n371 : q247 ≠ q366 := by omega
  have n372 : q253 ≠ q366 := by omega
  have n373 : q260 ≠ q366 := by omega
  have n374 : q269 ≠ q366 := by omega
  have n375 : q357 ≠ q366 := apart_ne (E327.apart 11 12 (by decide) (by decide) (by decide) ⟨_, _, rfl⟩ ⟨_, _, rfl⟩) p358 p367
  obtain ⟨t376, x378, A379, m380, c381, e382, b377⟩ := put_info (E327.facts 13 (by decide)) p358 f353.shape
  have f383 : Cz v327 (.agg #[.bool x378, .slice A379 m380 c381]) (zof (!(na0 == na1)) (M0 / M1)) := f353.at e382.symm
  obtain ⟨t384, x386, A387, m388, c389, e390, b385⟩ := put_info (E327.facts 14 (by decide)) p367 f356.shape
  have f391 : Cz v327 (.agg #[.bool x386, .slice A387 m388 c389]) (zof na0 (M0 % M1)) := f356.at e390.symm
  refine then_normal ?_
  refine wp_seq ?_
  refine wp_seq ?_
  have HB : w.heap.size ≤ v327.heap.size := T328.size
  refine wp_plan_any [.val (.cz (zof na0 (M0 % M1))), .val (.is (.int .i64 (zof na0 (M0 % M1)).sign)), .val (.is (.bool true)), .val (.is (.bool true)), .val (.cz (zof na0 (M0 % M1))), .val (.is (.int .i64 (zof na0 (M0 % M1)).sign)), .val (.az N1 (zof na1 M1)), .val (.is (.int .i64 (zof na1 M1).sign)), .val (.is (.bool false)), .val (.is (.bool false))] [] [] w.heap.size (by kernel_rfl) (by kernel_rfl) (by kernel_rfl) trivial HB ?_ ?_
  · exact ⟨fun s v h => does_val rfl rfl (x_load_z ((h.same 11 rfl).trans p367) ((h.far q366 b385.lt (by simp)).trans b385)) (f391.mono ((Mono.drew _).trans h.mono)),
      fun s v h => does_call rfl rfl (x_call1 Try.call39) (sign_k ((h.dep 0 rfl).az (N := N0) (by rw [zof_abs]; exact Nat.le_trans (dl_le (Nat.mod_le M0 M1)) hm0.len))),
      fun s v h => does_val rfl rfl (x_neq_int (h.dep 1 rfl) rfl) (congrArg (fun x => Value.bool (!x)) d1),
      fun s v h => does_val rfl rfl (x_move) (h.dep 2 rfl),
      fun s v h => does_val rfl (wanted_by (b := true) (want := true) rfl rfl (h.dep 3 rfl)) (x_load_z ((h.same 11 rfl).trans p367) ((h.far q366 b385.lt (by simp)).trans b385)) (f391.mono ((Mono.drew _).trans h.mono)),
      fun s v h => does_call rfl (wanted_by (b := true) (want := true) rfl rfl (h.dep 3 rfl)) (x_call1 Try.call39) (sign_k ((h.dep 4 rfl).az (N := N0) (by rw [zof_abs]; exact Nat.le_trans (dl_le (Nat.mod_le M0 M1)) hm0.len))),
      fun s v h => does_val rfl (wanted_by (b := true) (want := true) rfl rfl (h.dep 3 rfl)) (x_load_z ((h.same 3 rfl).trans p254) ((h.far q253 b334.lt (by simp)).trans b334)) (f339.mono ((Mono.drew _).trans h.mono)),
      fun s v h => does_call rfl (wanted_by (b := true) (want := true) rfl rfl (h.dep 3 rfl)) (x_call1 Try.call39) (sign_k (h.dep 6 rfl)),
      fun s v h => does_val rfl (wanted_by (b := true) (want := true) rfl rfl (h.dep 3 rfl)) (x_neq_int (h.dep 5 rfl) (h.dep 7 rfl)) (congrArg (fun x => Value.bool (!x)) d2),
      fun s v h => does_val rfl rfl (x_pick (h.dep 3 rfl)) (h.dep 8 rfl), trivial⟩
  intro g392 ts v392 hts E392
  simp only [fillL, Nat.reduceAdd, List.setIfInBounds_toArray, List.set_cons_zero, List.set_cons_succ] at hts
  subst hts
  have T393 : Below w.heap.size w v392 := (below_toDrew T328).trans E392.below
  have l394 : q247 < v327.heap.size := b333.lt
  have l395 : q253 < v327.heap.size := b334.lt
  have l396 : q260 < v327.heap.size := b335.lt
  have l397 : q269 < v327.heap.size := b336.lt
  have l398 : q357 < v327.heap.size := b377.lt
  have l399 : q366 < v327.heap.size := b385.lt
  have b400 : Bx v392 q247 24 #[.bool na0, .slice A0 n0 c0] := (E392.far q247 b333.lt (by simp)).trans b333
  have b401 : Bx v392 q253 24 #[.bool na1, .slice A1 n1 c1] := (E392.far q253 b334.lt (by simp)).trans b334
  have b402 : Bx v392 q260 24 #[.bool false, .slice none 0 0] := (E392.far q260 b335.lt (by simp)).trans b335
  have b403 : Bx v392 q269 24 #[.bool false, .slice none 0 0] := (E392.far q269 b336.lt (by simp)).trans b336
  have b404 : Bx v392 q357 t376 #[.bool x378, .slice A379 m380 c381] := (E392.far q357 b377.lt (by simp)).trans b377
  have b405 : Bx v392 q366 t384 #[.bool x386, .slice A387 m388 c389] := (E392.far q366 b385.lt (by simp)).trans b385
  have f406 := f337.mono ((Mono.drew _).trans E392.mono)
  have f407 := f338.mono ((Mono.drew _).trans E392.mono)
  have f408 := f339.mono ((Mono.drew _).trans E392.mono)
  have f409 := f340.mono ((Mono.drew _).trans E392.mono)
  have f410 := f341.mono ((Mono.drew _).trans E392.mono)
  have f411 := f342.mono ((Mono.drew _).trans E392.mono)
  have f412 := f343.mono ((Mono.drew _).trans E392.mono)
  have f413 := f344.mono ((Mono.drew _).trans E392.mono)
  have f414 := f345.mono ((Mono.drew _).trans E392.mono)
  have f415 := f346.mono ((Mono.drew _).trans E392.mono)
  have f416 := f347.mono ((Mono.drew _).trans E392.mono)
  have f417 := f348.mono ((Mono.drew _).trans E392.mono)
  have f418 := f352.mono ((Mono.drew _).trans E392.mono)
  have f419 := f353.mono ((Mono.drew _).trans E392.mono)
  have f420 := f355.mono ((Mono.drew _).trans E392.mono)
  have f421 := f356.mono ((Mono.drew _).trans E392.mono)
  have f422 := f383.mono ((Mono.drew _).trans E392.mono)
  have f423 := f391.mono ((Mono.drew _).trans E392.mono)
  have f424 : Cz v392 (g392 0) (zof na0 (M0 % M1)) := E392.facts 0 (by decide)
  have e425 : g392 1 = (.int .i64 (zof na0 (M0 % M1)).sign) := E392.facts 1 (by decide)
  have e426 : g392 2 = (.bool true) := E392.facts 2 (by decide)
  have e427 : g392 3 = (.bool true) := E392.facts 3 (by decide)
  have f428 : Cz v392 (g392 4) (zof na0 (M0 % M1)) := E392.facts 4 (by decide)
  have e429 : g392 5 = (.int .i64 (zof na0 (M0 % M1)).sign) := E392.facts 5 (by decide)
  have f430 : Az N1 v392 (g392 6) (zof na1 M1) := E392.facts 6 (by decide)
  have e431 : g392 7 = (.int .i64 (zof na1 M1).sign) := E392.facts 7 (by decide)
  have e432 : g392 8 = (.bool false) := E392.facts 8 (by decide)
  have e433 : g392 9 = (.bool false) := E392.facts 9 (by decide)
  refine then_normal ?_
  refine wp_cond_false e433 ?_
  refine wp_skip ?_
  refine then_normal ?_
  refine wp_seq ?_
  have HB : w.heap.size ≤ v392.heap.size := T393.size
  refine wp_plan_any [.val (.cz (zof (!(na0 == na1)) (M0 / M1))), .val (.cz (zof na0 (M0 % M1))), .put 4 52, .put 5 53, .val (.is (.int .i64 0))] [4, 5] [q260, q269] w.heap.size (by kernel_rfl) (by kernel_rfl) (by kernel_rfl) ⟨p261, b402.lt, (nin1 n278), ⟨p270, b403.lt, (by simp), trivial⟩⟩ HB ?_ ?_
  · exact ⟨fun s v h => does_val rfl rfl (x_load_z ((h.same 10 rfl).trans p358) ((h.far q357 b404.lt (nin2 n364.symm n365.symm)).trans b404)) (f422.mono ((Mono.drew _).trans h.mono)),
      fun s v h => does_val rfl rfl (x_load_z ((h.same 11 rfl).trans p367) ((h.far q366 b405.lt (nin2 n373.symm n374.symm)).trans b405)) (f423.mono ((Mono.drew _).trans h.mono)),
      fun s v h => does_put_z rfl rfl ((h.same 4 rfl).trans p261) (h.dep 0 rfl).shape (((Mono.drew _).trans h.mono).ok _ _ b402.ok2) h266,
      fun s v h => does_put_z rfl rfl ((h.same 5 rfl).trans p270) (h.dep 1 rfl).shape (((Mono.drew _).trans h.mono).ok _ _ b403.ok2) h275,
      fun s v h => does_val rfl rfl (x_assign) rfl, trivial⟩
  intro g434 ts v434 hts E434
  simp only [fillL, Nat.reduceAdd, List.setIfInBounds_toArray, List.set_cons_zero, List.set_cons_succ] at hts
  subst hts
  have T435 : Below w.heap.size w v434 := (below_toDrew T393).trans E434.below
  have l436 : q247 < v392.heap.size := b400.lt
  have l437 : q253 < v392.heap.size := b401.lt
  have l438 : q260 < v392.heap.size := b402.lt
  have l439 : q269 < v392.heap.size := b403.lt
  have l440 : q357 < v392.heap.size := b404.lt
  have l441 : q366 < v392.heap.size := b405.lt
  have b442 : Bx v434 q247 24 #[.bool na0, .slice A0 n0 c0] := (E434.far q247 b400.lt (nin2 n267 n276)).trans b400
  have b443 : Bx v434 q253 24 #[.bool na1, .slice A1 n1 c1] := (E434.far q253 b401.lt (nin2 n268 n277)).trans b401
  have b444 : Bx v434 q357 t376 #[.bool x378, .slice A379 m380 c381] := (E434.far q357 b404.lt (nin2 n364.symm n365.symm)).trans b404
  have b445 : Bx v434 q366 t384 #[.bool x386, .slice A387 m388 c389] := (E434.far q366 b405.lt (nin2 n373.symm n374.symm)).trans b405
  have f446 := f406.mono ((Mono.drew _).trans E434.mono)
  have f447 := f407.mono ((Mono.drew _).trans E434.mono)
  have f448 := f408.mono ((Mono.drew _).trans E434.mono)
  have f449 := f409.mono ((Mono.drew _).trans E434.mono)
  have f450 := f410.mono ((Mono.drew _).trans E434.mono)
  have f451 := f411.mono ((Mono.drew _).trans E434.mono)
  have f452 := f412.mono ((Mono.drew _).trans E434.mono)
  have f453 := f413.mono ((Mono.drew _).trans E434.mono)
  have f454 := f414.mono ((Mono.drew _).trans E434.mono)
  have f455 := f415.mono ((Mono.drew _).trans E434.mono)
  have f456 := f416.mono ((Mono.drew _).trans E434.mono)
  have f457 := f417.mono ((Mono.drew _).trans E434.mono)
  have f458 := f418.mono ((Mono.drew _).trans E434.mono)
  have f459 := f419.mono ((Mono.drew _).trans E434.mono)
  have f460 := f420.mono ((Mono.drew _).trans E434.mono)
  have f461 := f421.mono ((Mono.drew _).trans E434.mono)
  have f462 := f422.mono ((Mono.drew _).trans E434.mono)
  have f463 := f423.mono ((Mono.drew _).trans E434.mono)
  have f464 := f424.mono ((Mono.drew _).trans E434.mono)
  have f465 := f428.mono ((Mono.drew _).trans E434.mono)
  have f466 := f430.mono ((Mono.drew _).trans E434.mono)
  have f467 : Cz v434 (g434 0) (zof (!(na0 == na1)) (M0 / M1)) := E434.facts 0 (by decide)
  have f468 : Cz v434 (g434 1) (zof na0 (M0 % M1)) := E434.facts 1 (by decide)
  have e469 : g434 4 = (.int .i64 0) := E434.facts 4 (by decide)
  obtain ⟨t470, x472, A473, m474, c475, e476, b471⟩ := put_info (E434.facts 2 (by decide)) p261 f467.shape
  have f477 : Cz v434 (.agg #[.bool x472, .slice A473 m474 c475]) (zof (!(na0 == na1)) (M0 / M1)) := f467.at e476.symm
  obtain ⟨t478, x480, A481, m482, c483, e484, b479⟩ := put_info (E434.facts 3 (by decide)) p270 f468.shape
  have f485 : Cz v434 (.agg #[.bool x480, .slice A481 m482 c483]) (zof na0 (M0 % M1)) := f468.at e484.symm
  refine then_normal ?_
  refine wp_ret ?_
  exact bodyPost_ret (ret_cct rfl p261 b471 p270 b479) rfl ⟨_, rfl, ⟨_, _, _, rfl, f477, f485, e469⟩, T435⟩

set_option maxRecDepth 8000 in
theorem zfloor_c {w : World} {na0 : Bool} {A0 : Option Addr} {n0 c0 M0 N0 : Nat} (hm0 : Nz N0 w (.slice A0 n0 c0) M0) {na1 : Bool} {A1 : Option Addr} {n1 c1 M1 N1 : Nat} (hm1 : Nz N1 w (.slice A1 n1 c1) M1) (hN0 : N0 ≤ 35184372088820) (hb : 0 < M1) (hN1 : N1 ≤ 35184372088820) (d1 : ((zof na0 (M0 % M1)).sign == 0) = false) (d2 : ((zof na0 (M0 % M1)).sign == (zof na1 M1).sign) = false)  : Calls Try.prog 24 #[.agg #[.bool na0, .slice A0 n0 c0], .agg #[.bool na1, .slice A1 n1 c1]] w (Ret (.tup3 (.cz ((zof (!(na0 == na1)) (M0 / M1)) - 1)) (.cz ((zof na0 (M0 % M1)) + (zof na1 M1))) (.is (.int .i64 0))) w) := by
  have ha0 : Az N0 w (.agg #[.bool na0, .slice A0 n0 c0]) (zof na0 M0) := Az.of_nz hm0
  have la0 := ha0.len
  have ha1 : Az N1 w (.agg #[.bool na1, .slice A1 n1 c1]) (zof na1 M1) := Az.of_nz hm1
  have la1 := ha1.len
  have T0 : Below w.heap.size w w := Below.refl _ _
  go_enter Try.func24, Try.ntmps24
  refine wp_seq ?_
  have HB : w.heap.size ≤ w.heap.size := T0.size
  refine wp_plan_seq [.new 2 (some (24, #[.bool na0, .slice A0 n0 c0])), .new 2 (some (24, #[.bool na1, .slice A1 n1 c1])), .new 2 (some (24, #[.bool false, .slice none 0 0])), .new 2 (some (24, #[.bool false, .slice none 0 0])), .val (.is (.int .i64 0))] [] [] w.heap.size (by kernel_rfl) (by kernel_rfl) trivial HB ?_ ?_
  · exact ⟨fun s v h => does_new rfl rfl (x_box_z (h.same 0 rfl)) (okz _ _ _ _) rfl (.inr rfl),
      fun s v h => does_new rfl rfl (x_box_z (h.same 1 rfl)) (okz _ _ _ _) rfl (.inr rfl),
      fun s v h => does_new rfl rfl x_alloc_z (okz _ _ _ _) rfl (.inr rfl),
      fun s v h => does_new rfl rfl x_alloc_z (okz _ _ _ _) rfl (.inr rfl),
      fun s v h => does_val rfl rfl (x_assign) rfl, trivial⟩
  intro g486 ts v486 hts E486
  simp only [fillL, Nat.reduceAdd, List.setIfInBounds_toArray, List.set_cons_zero, List.set_cons_succ] at hts
  subst hts
  have T487 : Below w.heap.size w v486 := T0.trans E486.below
  have f488 := ha0.mono E486.mono
  have f489 := hm0.mono E486.mono
  have f490 := ha1.mono E486.mono
  have f491 := hm1.mono E486.mono
  have e492 : g486 4 = (.int .i64 0) := E486.facts 4 (by decide)
  obtain ⟨q493, p494, l495, o496, b497⟩ : ∃ q, g486 0 = .pointer (some ⟨q, 0, none⟩) ∧ w.heap.size ≤ q ∧ OkB v486 q 2 ∧ Bx v486 q 24 #[.bool na0, .slice A0 n0 c0] := E486.facts 0 (by decide)
  have h498 : w.heap.size ≤ q493 := Nat.le_trans HB l495
  obtain ⟨q499, p500, l501, o502, b503⟩ : ∃ q, g486 1 = .pointer (some ⟨q, 0, none⟩) ∧ w.heap.size ≤ q ∧ OkB v486 q 2 ∧ Bx v486 q 24 #[.bool na1, .slice A1 n1 c1] := E486.facts 1 (by decide)
  have h504 : w.heap.size ≤ q499 := Nat.le_trans HB l501
  have n505 : q493 ≠ q499 := apart_ne (E486.apart 0 1 (by decide) (by decide) (by decide) ⟨_, _, rfl⟩ ⟨_, _, rfl⟩) p494 p500
  obtain ⟨q506, p507, l508, o509, b510⟩ : ∃ q, g486 2 = .pointer (some ⟨q, 0, none⟩) ∧ w.heap.size ≤ q ∧ OkB v486 q 2 ∧ Bx v486 q 24 #[.bool false, .slice none 0 0] := E486.facts 2 (by decide)
  have f511 : Cz v486 (.agg #[.bool false, .slice none 0 0]) 0 := cz_zero _
  have h512 : w.heap.size ≤ q506 := Nat.le_trans HB l508
  have n513 : q493 ≠ q506 := apart_ne (E486.apart 0 2 (by decide) (by decide) (by decide) ⟨_, _, rfl⟩ ⟨_, _, rfl⟩) p494 p507
  have n514 : q499 ≠ q506 := apart_ne (E486.apart 1 2 (by decide) (by decide) (by decide) ⟨_, _, rfl⟩ ⟨_, _, rfl⟩) p500 p507
  obtain ⟨q515, p516, l517, o518, b519⟩ : ∃ q, g486 3 = .pointer (some ⟨q, 0, none⟩) ∧ w.heap.size ≤ q ∧ OkB v486 q 2 ∧ Bx v486 q 24 #[.bool false, .slice none 0 0] := E486.facts 3 (by decide)
  have f520 : Cz v486 (.agg #[.bool false, .slice none 0 0]) 0 := cz_zero _
  have h521 : w.heap.size ≤ q515 := Nat.le_trans HB l517
  have n522 : q493 ≠ q515 := apart_ne (E486.apart 0 3 (by decide) (by decide) (by decide) ⟨_, _, rfl⟩ ⟨_, _, rfl⟩) p494 p516
  have n523 : q499 ≠ q515 := apart_ne (E486.apart 1 3 (by decide) (by decide) (by decide) ⟨_, _, rfl⟩ ⟨_, _, rfl⟩) p500 p516
  have n524 : q506 ≠ q515 := apart_ne (E486.apart 2 3 (by decide) (by decide) (by decide) ⟨_, _, rfl⟩ ⟨_, _, rfl⟩) p507 p516
  refine then_normal ?_
  refine wp_seq ?_
  have HB : w.heap.size ≤ v486.heap.size := T487.size
  refine wp_plan_seq [.val (.is (.pointer (some ⟨q493, 1, none⟩))), .val (.nz N0 M0), .val (.is (.pointer (some ⟨q499, 1, none⟩))), .val (.nz N1 M1), .val (.tup3 (.nz N0 (M0 / M1)) (.nz N0 (M0 % M1)) (.is (.int .i64 0))), .val (.tup3 (.nz N0 (M0 / M1)) (.nz N0 (M0 % M1)) (.is (.int .i64 0))), .val (.nz N0 (M0 / M1)), .val (.nz N0 (M0 % M1)), .val (.is (.int .i64 0)), .val (.nz N0 (M0 / M1)), .val (.nz N0 (M0 % M1)), .val (.is (.int .i64 0))] [] [] w.heap.size (by kernel_rfl) (by kernel_rfl) trivial HB ?_ ?_
  · exact ⟨fun s v h => does_val rfl rfl (x_fld (by decide) ((h.same 2 rfl).trans p494)) rfl,
      fun s v h => does_val rfl rfl (x_load_s (h.dep 0 rfl) ((h.far q493 b497.lt (by simp)).trans b497)) (f489.mono h.mono),
      fun s v h => does_val rfl rfl (x_fld (by decide) ((h.same 3 rfl).trans p500)) rfl,
      fun s v h => does_val rfl rfl (x_load_s (h.dep 2 rfl) ((h.far q499 b503.lt (by simp)).trans b503)) (f491.mono h.mono),
      fun s v h => does_call rfl rfl (x_call2 Try.call63) (ndiv_k (h.dep 1 rfl) (h.dep 3 rfl) (by omega) (by omega)),
      fun s v h => does_val rfl rfl (x_move) (h.dep 4 rfl),
      fun s v h => by obtain ⟨r0, r1, r2, e, f0, f1, f2⟩ := tup3_at (h.dep 5 rfl); exact does_val rfl rfl (x_ext e rfl) f0,
      fun s v h => by obtain ⟨r0, r1, r2, e, f0, f1, f2⟩ := tup3_at (h.dep 5 rfl); exact does_val rfl rfl (x_ext e rfl) f1,
      fun s v h => by obtain ⟨r0, r1, r2, e, f0, f1, f2⟩ := tup3_at (h.dep 5 rfl); exact does_val rfl rfl (x_ext e rfl) f2,
      fun s v h => does_val rfl rfl (x_assign) (h.dep 6 rfl),
      fun s v h => does_val rfl rfl (x_assign) (h.dep 7 rfl),
      fun s v h => does_val rfl rfl (x_assign) (h.dep 8 rfl), trivial⟩
  intro g525 ts v525 hts E525
  simp only [fillL, Nat.reduceAdd, List.setIfInBounds_toArray, List.set_cons_zero, List.set_cons_succ] at hts
  subst hts
  have T526 : Below w.heap.size w v525 := T487.trans E525.below
  have l527 : q493 < v486.heap.size := b497.lt
  have l528 : q499 < v486.heap.size := b503.lt
  have l529 : q506 < v486.heap.size := b510.lt
  have l530 : q515 < v486.heap.size := b519.lt
  have b531 : Bx v525 q493 24 #[.bool na0, .slice A0 n0 c0] := (E525.far q493 b497.lt (by simp)).trans b497
  have b532 : Bx v525 q499 24 #[.bool na1, .slice A1 n1 c1] := (E525.far q499 b503.lt (by simp)).trans b503
  have b533 : Bx v525 q506 24 #[.bool false, .slice none 0 0] := (E525.far q506 b510.lt (by simp)).trans b510
  have b534 : Bx v525 q515 24 #[.bool false, .slice none 0 0] := (E525.far q515 b519.lt (by simp)).trans b519
  have f535 := f488.mono E525.mono
  have f536 := f489.mono E525.mono
  have f537 := f490.mono E525.mono
  have f538 := f491.mono E525.mono
  have f539 := f511.mono E525.mono
  have f540 := f520.mono E525.mono
  have f541 : Nz N0 v525 (g525 1) M0 := E525.facts 1 (by decide)
  have f542 : Nz N1 v525 (g525 3) M1 := E525.facts 3 (by decide)
  have f543 : Nz N0 v525 (g525 6) (M0 / M1) := E525.facts 6 (by decide)
  have f544 : Nz N0 v525 (g525 7) (M0 % M1) := E525.facts 7 (by decide)
  have e545 : g525 8 = (.int .i64 0) := E525.facts 8 (by decide)
  have f546 : Nz N0 v525 (g525 9) (M0 / M1) := E525.facts 9 (by decide)
  have f547 : Nz N0 v525 (g525 10) (M0 % M1) := E525.facts 10 (by decide)
  have e548 : g525 11 = (.int .i64 0) := E525.facts 11 (by decide)
  refine then_normal ?_
  refine wp_seq ?_
  refine wp_seq ?_
  have HB : w.heap.size ≤ v525.heap.size := T526.size
  refine wp_plan_seq [.val (.is (.int .i64 0)), .val (.is (.bool false))] [] [] w.heap.size (by kernel_rfl) (by kernel_rfl) trivial HB ?_ ?_
  · exact ⟨fun s v h => does_val rfl rfl (x_move) ((h.same 9 rfl).trans e548),
      fun s v h => does_val rfl rfl (x_neq_err (h.dep 0 rfl) rfl) rfl, trivial⟩
  intro g549 ts v549 hts E549
  simp only [fillL, Nat.reduceAdd, List.setIfInBounds_toArray, List.set_cons_zero, List.set_cons_succ] at hts
  subst hts
  have T550 : Below w.heap.size w v549 := T526.trans E549.below
  have l551 : q493 < v525.heap.size := b531.lt
  have l552 : q499 < v525.heap.size := b532.lt
  have l553 : q506 < v525.heap.size := b533.lt
  have l554 : q515 < v525.heap.size := b534.lt
  have b555 : Bx v549 q493 24 #[.bool na0, .slice A0 n0 c0] := (E549.far q493 b531.lt (by simp)).trans b531
  have b556 : Bx v549 q499 24 #[.bool na1, .slice A1 n1 c1] := (E549.far q499 b532.lt (by simp)).trans b532
  have b557 : Bx v549 q506 24 #[.bool false, .slice none 0 0] := (E549.far q506 b533.lt (by simp)).trans b533
  have b558 : Bx v549 q515 24 #[.bool false, .slice none 0 0] := (E549.far q515 b534.lt (by simp)).trans b534
  have f559 := f535.mono E549.mono
  have f560 := f536.mono E549.mono
  have f561 := f537.mono E549.mono
  have f562 := f538.mono E549.mono
  have f563 := f539.mono E549.mono
  have f564 := f540.mono E549.mono
  have f565 := f541.mono E549.mono
  have f566 := f542.mono E549.mono
  have f567 := f543.mono E549.mono
  have f568 := f544.mono E549.mono
  have f569 := f546.mono E549.mono
  have f570 := f547.mono E549.mono
  have e571 : g549 0 = (.int .i64 0) := E549.facts 0 (by decide)
  have e572 : g549 1 = (.bool false) := E549.facts 1 (by decide)
  refine then_normal ?_
  refine wp_cond_false e572 ?_
  refine wp_skip ?_
  refine then_normal ?_
  refine wp_seq ?_
  have HB : w.heap.size ≤ v549.heap.size := T550.size
  refine wp_plan_any [.val (.is (.pointer (some ⟨q493, 0, none⟩))), .val (.is (.bool na0)), .val (.is (.pointer (some ⟨q499, 0, none⟩))), .val (.is (.bool na1)), .val (.is (.bool (!(na0 == na1)))), .val (.nz N0 (M0 / M1)), .val (.cz (zof (!(na0 == na1)) (M0 / M1))), .val (.is (.pointer (some ⟨q493, 0, none⟩))), .val (.is (.bool na0)), .val (.nz N0 (M0 % M1)), .val (.cz (zof na0 (M0 % M1))), .new 2 none, .new 2 none, .put 10 31, .put 11 35] [] [] w.heap.size (by kernel_rfl) (by kernel_rfl) (by kernel_rfl) trivial HB ?_ ?_
  · exact ⟨fun s v h => does_val rfl rfl (x_fld (by decide) ((h.same 2 rfl).trans p494)) rfl,
      fun s v h => does_val rfl rfl (x_load_b (h.dep 0 rfl) ((h.far q493 b555.lt (by simp)).trans b555)) rfl,
      fun s v h => does_val rfl rfl (x_fld (by decide) ((h.same 3 rfl).trans p500)) rfl,
      fun s v h => does_val rfl rfl (x_load_b (h.dep 2 rfl) ((h.far q499 b556.lt (by simp)).trans b556)) rfl,
      fun s v h => does_val rfl rfl (x_neq_bool (h.dep 1 rfl) (h.dep 3 rfl)) rfl,
      fun s v h => does_val rfl rfl (x_move) ((f569.mono ((Mono.drew _).trans h.mono)).at (h.same 7 rfl)),
      fun s v h => does_call rfl rfl (x_call2 Try.call53) (zmade_k (h.dep 4 rfl) (h.dep 5 rfl)),
      fun s v h => does_val rfl rfl (x_fld (by decide) ((h.same 2 rfl).trans p494)) rfl,
      fun s v h => does_val rfl rfl (x_load_b (h.dep 7 rfl) ((h.far q493 b555.lt (by simp)).trans b555)) rfl,
      fun s v h => does_val rfl rfl (x_move) ((f570.mono ((Mono.drew _).trans h.mono)).at (h.same 8 rfl)),
      fun s v h => does_call rfl rfl (x_call2 Try.call53) (zmade_k (h.dep 8 rfl) (h.dep 9 rfl)),
      fun s v h => does_new rfl rfl x_alloc_z (okz _ _ _ _) rfl (.inl rfl),
      fun s v h => does_new rfl rfl x_alloc_z (okz _ _ _ _) rfl (.inl rfl),
      fun s v h => by obtain ⟨q, e1, e2, e3⟩ := new_at (h.dep 11 rfl); exact does_put_z rfl rfl e1 (h.dep 6 rfl).shape e3 (Nat.le_trans HB e2),
      fun s v h => by obtain ⟨q, e1, e2, e3⟩ := new_at (h.dep 12 rfl); exact does_put_z rfl rfl e1 (h.dep 10 rfl).shape e3 (Nat.le_trans HB e2), trivial⟩
  intro g573 ts v573 hts E573
  simp only [fillL, Nat.reduceAdd, List.setIfInBounds_toArray, List.set_cons_zero, List.set_cons_succ] at hts
  subst hts
  have T574 : Below w.heap.size w v573 := (below_toDrew T550).trans E573.below
  have l575 : q493 < v549.heap.size := b555.lt
  have l576 : q499 < v549.heap.size := b556.lt
  have l577 : q506 < v549.heap.size := b557.lt
  have l578 : q515 < v549.heap.size := b558.lt
  have b579 : Bx v573 q493 24 #[.bool na0, .slice A0 n0 c0] := (E573.far q493 b555.lt (by simp)).trans b555
  have b580 : Bx v573 q499 24 #[.bool na1, .slice A1 n1 c1] := (E573.far q499 b556.lt (by simp)).trans b556
  have b581 : Bx v573 q506 24 #[.bool false, .slice none 0 0] := (E573.far q506 b557.lt (by simp)).trans b557
  have b582 : Bx v573 q515 24 #[.bool false, .slice none 0 0] := (E573.far q515 b558.lt (by simp)).trans b558
  have f583 := f559.mono ((Mono.drew _).trans E573.mono)
  have f584 := f560.mono ((Mono.drew _).trans E573.mono)
  have f585 := f561.mono ((Mono.drew _).trans E573.mono)
  have f586 := f562.mono ((Mono.drew _).trans E573.mono)
  have f587 := f563.mono ((Mono.drew _).trans E573.mono)
  have f588 := f564.mono ((Mono.drew _).trans E573.mono)
  have f589 := f565.mono ((Mono.drew _).trans E573.mono)
  have f590 := f566.mono ((Mono.drew _).trans E573.mono)
  have f591 := f567.mono ((Mono.drew _).trans E573.mono)
  have f592 := f568.mono ((Mono.drew _).trans E573.mono)
  have f593 := f569.mono ((Mono.drew _).trans E573.mono)
  have f594 := f570.mono ((Mono.drew _).trans E573.mono)
  have e595 : g573 1 = (.bool na0) := E573.facts 1 (by decide)
  have e596 : g573 3 = (.bool na1) := E573.facts 3 (by decide)
  have e597 : g573 4 = (.bool (!(na0 == na1))) := E573.facts 4 (by decide)
  have f598 : Nz N0 v573 (g573 5) (M0 / M1) := E573.facts 5 (by decide)
  have f599 : Cz v573 (g573 6) (zof (!(na0 == na1)) (M0 / M1)) := E573.facts 6 (by decide)
  have e600 : g573 8 = (.bool na0) := E573.facts 8 (by decide)
  have f601 : Nz N0 v573 (g573 9) (M0 % M1) := E573.facts 9 (by decide)
  have f602 : Cz v573 (g573 10) (zof na0 (M0 % M1)) := E573.facts 10 (by decide)
  obtain ⟨q603, p604, l605, o606⟩ : ∃ q, g573 11 = .pointer (some ⟨q, 0, none⟩) ∧ v549.heap.size ≤ q ∧ OkB v573 q 2 := E573.facts 11 (by decide)
  have h607 : w.heap.size ≤ q603 := Nat.le_trans HB l605
  have n608 : q493 ≠ q603 := by omega
  have n609 : q499 ≠ q603 := by omega
  have n610 : q506 ≠ q603 := by omega
  have n611 : q515 ≠ q603 := by omega
  obtain ⟨q612, p613, l614, o615⟩ : ∃ q, g573 12 = .pointer (some ⟨q, 0, none⟩) ∧ v549.heap.size ≤ q ∧ OkB v573 q 2 := E573.facts 12 (by decide)
  have h616 : w.heap.size ≤ q612 := Nat.le_trans HB l614
  have n617 : q493 ≠ q612 := by omega
  have n618 : q499 ≠ q612 := by omega
  have n619 : q506 ≠ q612 := by omega
  have n620 : q515 ≠ q612 := by omega
  have n621 : q603 ≠ q612 := apart_ne (E573.apart 11 12 (by decide) (by decide) (by decide) ⟨_, _, rfl⟩ ⟨_, _, rfl⟩) p604 p613
  obtain ⟨t622, x624, A625, m626, c627, e628, b623⟩ := put_info (E573.facts 13 (by decide)) p604 f599.shape
  have f629 : Cz v573 (.agg #[.bool x624, .slice A625 m626 c627]) (zof (!(na0 == na1)) (M0 / M1)) := f599.at e628.symm
  obtain ⟨t630, x632, A633, m634, c635, e636, b631⟩ := put_info (E573.facts 14 (by decide)) p613 f602.shape
  have f637 : Cz v573 (.agg #[.bool x632, .slice A633 m634 c635]) (zof na0 (M0 % M1)) := f602.at e636.symm
  refine then_normal ?_
  refine wp_seq ?_
  refine wp_seq ?_
  have HB : w.heap.size ≤ v573.heap.size := T574.size
  refine wp_plan_any [.val (.cz (zof na0 (M0 % M1))), .val (.is (.int .i64 (zof na0 (M0 % M1)).sign)), .val (.is (.bool true)), .val (.is (.bool true)), .val (.cz (zof na0 (M0 % M1))), .val (.is (.int .i64 (zof na0 (M0 % M1)).sign)), .val (.az N1 (zof na1 M1)), .val (.is (.int .i64 (zof na1 M1).sign)), .val (.is (.bool true)), .val (.is (.bool true))] [] [] w.heap.size (by kernel_rfl) (by kernel_rfl) (by kernel_rfl) trivial HB ?_ ?_
  · exact ⟨fun s v h => does_val rfl rfl (x_load_z ((h.same 11 rfl).trans p613) ((h.far q612 b631.lt (by simp)).trans b631)) (f637.mono ((Mono.drew _).trans h.mono)),
      fun s v h => does_call rfl rfl (x_call1 Try.call39) (sign_k ((h.dep 0 rfl).az (N := N0) (by rw [zof_abs]; exact Nat.le_trans (dl_le (Nat.mod_le M0 M1)) hm0.len))),
      fun s v h => does_val rfl rfl (x_neq_int (h.dep 1 rfl) rfl) (congrArg (fun x => Value.bool (!x)) d1),
      fun s v h => does_val rfl rfl (x_move) (h.dep 2 rfl),
      fun s v h => does_val rfl (wanted_by (b := true) (want := true) rfl rfl (h.dep 3 rfl)) (x_load_z ((h.same 11 rfl).trans p613) ((h.far q612 b631.lt (by simp)).trans b631)) (f637.mono ((Mono.drew _).trans h.mono)),
      fun s v h => does_call rfl (wanted_by (b := true) (want := true) rfl rfl (h.dep 3 rfl)) (x_call1 Try.call39) (sign_k ((h.dep 4 rfl).az (N := N0) (by rw [zof_abs]; exact Nat.le_trans (dl_le (Nat.mod_le M0 M1)) hm0.len))),
      fun s v h => does_val rfl (wanted_by (b := true) (want := true) rfl rfl (h.dep 3 rfl)) (x_load_z ((h.same 3 rfl).trans p500) ((h.far q499 b580.lt (by simp)).trans b580)) (f585.mono ((Mono.drew _).trans h.mono)),
      fun s v h => does_call rfl (wanted_by (b := true) (want := true) rfl rfl (h.dep 3 rfl)) (x_call1 Try.call39) (sign_k (h.dep 6 rfl)),
      fun s v h => does_val rfl (wanted_by (b := true) (want := true) rfl rfl (h.dep 3 rfl)) (x_neq_int (h.dep 5 rfl) (h.dep 7 rfl)) (congrArg (fun x => Value.bool (!x)) d2),
      fun s v h => does_val rfl rfl (x_pick (h.dep 3 rfl)) (h.dep 8 rfl), trivial⟩
  intro g638 ts v638 hts E638
  simp only [fillL, Nat.reduceAdd, List.setIfInBounds_toArray, List.set_cons_zero, List.set_cons_succ] at hts
  subst hts
  have T639 : Below w.heap.size w v638 := (below_toDrew T574).trans E638.below
  have l640 : q493 < v573.heap.size := b579.lt
  have l641 : q499 < v573.heap.size := b580.lt
  have l642 : q506 < v573.heap.size := b581.lt
  have l643 : q515 < v573.heap.size := b582.lt
  have l644 : q603 < v573.heap.size := b623.lt
  have l645 : q612 < v573.heap.size := b631.lt
  have b646 : Bx v638 q493 24 #[.bool na0, .slice A0 n0 c0] := (E638.far q493 b579.lt (by simp)).trans b579
  have b647 : Bx v638 q499 24 #[.bool na1, .slice A1 n1 c1] := (E638.far q499 b580.lt (by simp)).trans b580
  have b648 : Bx v638 q506 24 #[.bool false, .slice none 0 0] := (E638.far q506 b581.lt (by simp)).trans b581
  have b649 : Bx v638 q515 24 #[.bool false, .slice none 0 0] := (E638.far q515 b582.lt (by simp)).trans b582
  have b650 : Bx v638 q603 t622 #[.bool x624, .slice A625 m626 c627] := (E638.far q603 b623.lt (by simp)).trans b623
  have b651 : Bx v638 q612 t630 #[.bool x632, .slice A633 m634 c635] := (E638.far q612 b631.lt (by simp)).trans b631
  have f652 := f583.mono ((Mono.drew _).trans E638.mono)
  have f653 := f584.mono ((Mono.drew _).trans E638.mono)
  have f654 := f585.mono ((Mono.drew _).trans E638.mono)
  have f655 := f586.mono ((Mono.drew _).trans E638.mono)
  have f656 := f587.mono ((Mono.drew _).trans E638.mono)
  have f657 := f588.mono ((Mono.drew _).trans E638.mono)
  have f658 := f589.mono ((Mono.drew _).trans E638.mono)
  have f659 := f590.mono ((Mono.drew _).trans E638.mono)
  have f660 := f591.mono ((Mono.drew _).trans E638.mono)
  have f661 := f592.mono ((Mono.drew _).trans E638.mono)
  have f662 := f593.mono ((Mono.drew _).trans E638.mono)
  have f663 := f594.mono ((Mono.drew _).trans E638.mono)
  have f664 := f598.mono ((Mono.drew _).trans E638.mono)
  have f665 := f599.mono ((Mono.drew _).trans E638.mono)
  have f666 := f601.mono ((Mono.drew _).trans E638.mono)
  have f667 := f602.mono ((Mono.drew _).trans E638.mono)
  have f668 := f629.mono ((Mono.drew _).trans E638.mono)
  have f669 := f637.mono ((Mono.drew _).trans E638.mono)
  have f670 : Cz v638 (g638 0) (zof na0 (M0 % M1)) := E638.facts 0 (by decide)
  have e671 : g638 1 = (.int .i64 (zof na0 (M0 % M1)).sign) := E638.facts 1 (by decide)
  have e672 : g638 2 = (.bool true) := E638.facts 2 (by decide)
  have e673 : g638 3 = (.bool true) := E638.facts 3 (by decide)
  have f674 : Cz v638 (g638 4) (zof na0 (M0 % M1)) := E638.facts 4 (by decide)
  have e675 : g638 5 = (.int .i64 (zof na0 (M0 % M1)).sign) := E638.facts 5 (by decide)
  have f676 : Az N1 v638 (g638 6) (zof na1 M1) := E638.facts 6 (by decide)
  have e677 : g638 7 = (.int .i64 (zof na1 M1).sign) := E638.facts 7 (by decide)
  have e678 : g638 8 = (.bool true) := E638.facts 8 (by decide)
  have e679 : g638 9 = (.bool true) := E638.facts 9 (by decide)
  refine then_normal ?_
  refine wp_cond_true e679 ?_
  have HB : w.heap.size ≤ v638.heap.size := T639.size
  refine wp_plan_any [.val (.cz (zof (!(na0 == na1)) (M0 / M1))), .val (.cz 1), .val (.cz ((zof (!(na0 == na1)) (M0 / M1)) - 1)), .val (.cz (zof na0 (M0 % M1))), .val (.az N1 (zof na1 M1)), .val (.cz ((zof na0 (M0 % M1)) + (zof na1 M1))), .put 10 48, .put 11 51] [10, 11] [q603, q612] w.heap.size (by kernel_rfl) (by kernel_rfl) (by kernel_rfl) ⟨p604, b650.lt, (nin1 n621), ⟨p613, b651.lt, (by simp), trivial⟩⟩ HB ?_ ?_
  · exact ⟨fun s v h => does_val rfl rfl (x_load_z ((h.same 10 rfl).trans p604) ((h.held 6 10 48 _ rfl rfl rfl p604).trans b650)) (f668.mono ((Mono.drew _).trans h.mono)),
      fun s v h => does_call rfl rfl (x_call1 Try.call42) (of_k rfl (by decide) (by decide)),
      fun s v h => does_call rfl rfl (x_call2 Try.call13) (sub_k ((h.dep 0 rfl).az (N := N0) (by rw [zof_abs]; exact Nat.le_trans (dl_le (Nat.div_le_self M0 M1)) hm0.len)) ((h.dep 1 rfl).az (N := 1) (show (digs (Int.natAbs 1)).length ≤ 1 from digs_len_le (by decide))) (by omega) (by omega)),
      fun s v h => does_val rfl rfl (x_load_z ((h.same 11 rfl).trans p613) ((h.held 7 11 51 _ rfl rfl rfl p613).trans b651)) (f669.mono ((Mono.drew _).trans h.mono)),
      fun s v h => does_val rfl rfl (x_load_z ((h.same 3 rfl).trans p500) ((h.far q499 b647.lt (nin2 n609 n618)).trans b647)) (f654.mono ((Mono.drew _).trans h.mono)),
      fun s v h => does_call rfl rfl (x_call2 Try.call14) (add_k ((h.dep 3 rfl).az (N := N0) (by rw [zof_abs]; exact Nat.le_trans (dl_le (Nat.mod_le M0 M1)) hm0.len)) (h.dep 4 rfl) (by omega) (by omega)),
      fun s v h => does_put_z rfl rfl ((h.same 10 rfl).trans p604) (h.dep 2 rfl).shape (((Mono.drew _).trans h.mono).ok _ _ b650.ok2) h607,
      fun s v h => does_put_z rfl rfl ((h.same 11 rfl).trans p613) (h.dep 5 rfl).shape (((Mono.drew _).trans h.mono).ok _ _ b651.ok2) h616, trivial⟩
  intro g680 ts v680 hts E680
  simp only [fillL, Nat.reduceAdd, List.setIfInBounds_toArray, List.set_cons_zero, List.set_cons_succ] at hts
  subst hts
  have T681 : Below w.heap.size w v680 := (below_toDrew T639).trans E680.below
  have l682 : q493 < v638.heap.size := b646.lt
  have l683 : q499 < v638.heap.size := b647.lt
  have l684 : q506 < v638.heap.size := b648.lt
  have l685 : q515 < v638.heap.size := b649.lt
  have l686 : q603 < v638.heap.size := b650.lt
  have l687 : q612 < v638.heap.size := b651.lt
  have b688 : Bx v680 q493 24 #[.bool na0, .slice A0 n0 c0] := (E680.far q493 b646.lt (nin2 n608 n617)).trans b646
  have b689 : Bx v680 q499 24 #[.bool na1, .slice A1 n1 c1] := (E680.far q499 b647.lt (nin2 n609 n618)).trans b647
  have b690 : Bx v680 q506 24 #[.bool false, .slice none 0 0] := (E680.far q506 b648.lt (nin2 n610 n619)).trans b648
  have b691 : Bx v680 q515 24 #[.bool false, .slice none 0 0] := (E680.far q515 b649.lt (nin2 n611 n620)).trans b649
  have f692 := f652.mono ((Mono.drew _).trans E680.mono)
  have f693 := f653.mono ((Mono.drew _).trans E680.mono)
  have f694 := f654.mono ((Mono.drew _).trans E680.mono)
  have f695 := f655.mono ((Mono.drew _).trans E680.mono)
  have f696 := f656.mono ((Mono.drew _).trans E680.mono)
  have f697 := f657.mono ((Mono.drew _).trans E680.mono)
  have f698 := f658.mono ((Mono.drew _).trans E680.mono)
  have f699 := f659.mono ((Mono.drew _).trans E680.mono)
  have f700 := f660.mono ((Mono.drew _).trans E680.mono)
  have f701 := f661.mono ((Mono.drew _).trans E680.mono)
  have f702 := f662.mono ((Mono.drew _).trans E680.mono)
  have f703 := f663.mono ((Mono.drew _).trans E680.mono)
  have f704 := f664.mono ((Mono.drew _).trans E680.mono)
  have f705 := f665.mono ((Mono.drew _).trans E680.mono)
  have f706 := f666.mono ((Mono.drew _).trans E680.mono)
  have f707 := f667.mono ((Mono.drew _).trans E680.mono)
  have f708 := f668.mono ((Mono.drew _).trans E680.mono)
  have f709 := f669.mono ((Mono.drew _).trans E680.mono)
  have f710 := f670.mono ((Mono.drew _).trans E680.mono)
  have f711 := f674.mono ((Mono.drew _).trans E680.mono)
  have f712 := f676.mono ((Mono.drew _).trans E680.mono)
  have f713 : Cz v680 (g680 0) (zof (!(na0 == na1)) (M0 / M1)) := E680.facts 0 (by decide)
  have f714 : Cz v680 (g680 1) 1 := E680.facts 1 (by decide)
  have f715 : Cz v680 (g680 2) ((zof (!(na0 == na1)) (M0 / M1)) - 1) := E680.facts 2 (by decide)
  have f716 : Cz v680 (g680 3) (zof na0 (M0 % M1)) := E680.facts 3 (by decide)
  have f717 : Az N1 v680 (g680 4) (zof na1 M1) := E680.facts 4 (by decide)
  have f718 : Cz v680 (g680 5) ((zof na0 (M0 % M1)) + (zof na1 M1)) := E680.facts 5 (by decide)
  obtain ⟨t719, x721, A722, m723, c724, e725, b720⟩ := put_info (E680.facts 6 (by decide)) p604 f715.shape
  have f726 : Cz v680 (.agg #[.bool x721, .slice A722 m723 c724]) ((zof (!(na0 == na1)) (M0 / M1)) - 1) := f715.at e725.symm
  obtain ⟨t727, x729, A730, m731, c732, e733, b728⟩ := put_info (E680.facts 7 (by decide)) p613 f718.shape
  have f734 : Cz v680 (.agg #[.bool x729, .slice A730 m731 c732]) ((zof na0 (M0 % M1)) + (zof na1 M1)) := f718.at e733.symm
  refine then_normal ?_
  refine wp_seq ?_
  have HB : w.heap.size ≤ v680.heap.size := T681.size
  refine wp_plan_any [.val (.cz ((zof (!(na0 == na1)) (M0 / M1)) - 1)), .val (.cz ((zof na0 (M0 % M1)) + (zof na1 M1))), .put 4 52, .put 5 53, .val (.is (.int .i64 0))] [4, 5] [q506, q515] w.heap.size (by kernel_rfl) (by kernel_rfl) (by kernel_rfl) ⟨p507, b690.lt, (nin1 n524), ⟨p516, b691.lt, (by simp), trivial⟩⟩ HB ?_ ?_
  · exact ⟨fun s v h => does_val rfl rfl (x_load_z ((h.same 10 rfl).trans p604) ((h.far q603 b720.lt (nin2 n610.symm n611.symm)).trans b720)) (f726.mono ((Mono.drew _).trans h.mono)),
      fun s v h => does_val rfl rfl (x_load_z ((h.same 11 rfl).trans p613) ((h.far q612 b728.lt (nin2 n619.symm n620.symm)).trans b728)) (f734.mono ((Mono.drew _).trans h.mono)),
      fun s v h => does_put_z rfl rfl ((h.same 4 rfl).trans p507) (h.dep 0 rfl).shape (((Mono.drew _).trans h.mono).ok _ _ b690.ok2) h512,
      fun s v h => does_put_z rfl rfl ((h.same 5 rfl).trans p516) (h.dep 1 rfl).shape (((Mono.drew _).trans h.mono).ok _ _ b691.ok2) h521,
      fun s v h => does_val rfl rfl (x_assign) rfl, trivial⟩
  intro g735 ts v735 hts E735
  simp only [fillL, Nat.reduceAdd, List.setIfInBounds_toArray, List.set_cons_zero, List.set_cons_succ] at hts
  subst hts
  have T736 : Below w.heap.size w v735 := (below_toDrew T681).trans E735.below
  have l737 : q493 < v680.heap.size := b688.lt
  have l738 : q499 < v680.heap.size := b689.lt
  have l739 : q506 < v680.heap.size := b690.lt
  have l740 : q515 < v680.heap.size := b691.lt
  have l741 : q603 < v680.heap.size := b720.lt
  have l742 : q612 < v680.heap.size := b728.lt
  have b743 : Bx v735 q493 24 #[.bool na0, .slice A0 n0 c0] := (E735.far q493 b688.lt (nin2 n513 n522)).trans b688
  have b744 : Bx v735 q499 24 #[.bool na1, .slice A1 n1 c1] := (E735.far q499 b689.lt (nin2 n514 n523)).trans b689
  have b745 : Bx v735 q603 t719 #[.bool x721, .slice A722 m723 c724] := (E735.far q603 b720.lt (nin2 n610.symm n611.symm)).trans b720
  have b746 : Bx v735 q612 t727 #[.bool x729, .slice A730 m731 c732] := (E735.far q612 b728.lt (nin2 n619.symm n620.symm)).trans b728
  have f747 := f692.mono ((Mono.drew _).trans E735.mono)
  have f748 := f693.mono ((Mono.drew _).trans E735.mono)
  have f749 := f694.mono ((Mono.drew _).trans E735.mono)
  have f750 := f695.mono ((Mono.drew _).trans E735.mono)
  have f751 := f696.mono ((Mono.drew _).trans E735.mono)
  have f752 := f697.mono ((Mono.drew _).trans E735.mono)
  have f753 := f698.mono ((Mono.drew _).trans E735.mono)
  have f754 := f699.mono ((Mono.drew _).trans E735.mono)
  have f755 := f700.mono ((Mono.drew _).trans E735.mono)
  have f756 := f701.mono ((Mono.drew _).trans E735.mono)
  have f757 := f702.mono ((Mono.drew _).trans E735.mono)
  have f758 := f703.mono ((Mono.drew _).trans E735.mono)
  have f759 := f704.mono ((Mono.drew _).trans E735.mono)
  have f760 := f705.mono ((Mono.drew _).trans E735.mono)
  have f761 := f706.mono ((Mono.drew _).trans E735.mono)
  have f762 := f707.mono ((Mono.drew _).trans E735.mono)
  have f763 := f708.mono ((Mono.drew _).trans E735.mono)
  have f764 := f709.mono ((Mono.drew _).trans E735.mono)
  have f765 := f710.mono ((Mono.drew _).trans E735.mono)
  have f766 := f711.mono ((Mono.drew _).trans E735.mono)
  have f767 := f712.mono ((Mono.drew _).trans E735.mono)
  have f768 := f713.mono ((Mono.drew _).trans E735.mono)
  have f769 := f714.mono ((Mono.drew _).trans E735.mono)
  have f770 := f715.mono ((Mono.drew _).trans E735.mono)
  have f771 := f716.mono ((Mono.drew _).trans E735.mono)
  have f772 := f717.mono ((Mono.drew _).trans E735.mono)
  have f773 := f718.mono ((Mono.drew _).trans E735.mono)
  have f774 := f726.mono ((Mono.drew _).trans E735.mono)
  have f775 := f734.mono ((Mono.drew _).trans E735.mono)
  have f776 : Cz v735 (g735 0) ((zof (!(na0 == na1)) (M0 / M1)) - 1) := E735.facts 0 (by decide)
  have f777 : Cz v735 (g735 1) ((zof na0 (M0 % M1)) + (zof na1 M1)) := E735.facts 1 (by decide)
  have e778 : g735 4 = (.int .i64 0) := E735.facts 4 (by decide)
  obtain ⟨t779, x781, A782, m783, c784, e785, b780⟩ := put_info (E735.facts 2 (by decide)) p507 f776.shape
  have f786 : Cz v735 (.agg #[.bool x781, .slice A782 m783 c784]) ((zof (!(na0 == na1)) (M0 / M1)) - 1) := f776.at e785.symm
  obtain ⟨t787, x789, A790, m791, c792, e793, b788⟩ := put_info (E735.facts 3 (by decide)) p516 f777.shape
  have f794 : Cz v735 (.agg #[.bool x789, .slice A790 m791 c792]) ((zof na0 (M0 % M1)) + (zof na1 M1)) := f777.at e793.symm
  refine then_normal ?_
  refine wp_ret ?_
  exact bodyPost_ret (ret_cct rfl p507 b780 p516 b788) rfl ⟨_, rfl, ⟨_, _, _, rfl, f786, f794, e778⟩, T736⟩

theorem nz_sl {N M : Nat} {w : World} {x : Value} (h : Nz N w x M) : ∃ A n c, x = .slice A n c := by
  obtain ⟨A, n, c, l, rfl, _⟩ := h
  exact ⟨_, _, _, rfl⟩
theorem zfloor_k {w : World} {x y : Value} {z u : Int} {N M : Nat} (h : Az N w x z) (h' : Az M w y u) (hN : N ≤ 35184372088820) (hM : M ≤ 35184372088820) (hu : u ≠ 0) :
    Calls Try.prog 24 #[x, y] w (Ret (.tup3 (.cz (fl z u)) (.cz (md z u)) (.is (.int .i64 0))) w) := by
  obtain ⟨na, A, n, c, a, rfl, hm, hz⟩ := h.parts
  obtain ⟨nb, A', n', c', b, rfl, hm', hz'⟩ := h'.parts
  have hb : 0 < b := by rcases Nat.eq_zero_or_pos b with h0 | h0; (subst h0; exact absurd (by rw [← hz']; cases nb <;> rfl) hu); exact h0
  rcases floor_ways (s := na) (t := nb) (a := a) hb hz hz' with ⟨d1, e1, e2⟩ | ⟨d1, d2, e1, e2⟩ | ⟨d1, d2, e1, e2⟩
  · rw [← e1, ← e2]
    exact zfloor_a hm hm' hN hb d1
  · rw [← e1, ← e2]
    exact zfloor_b hm hm' hN hb d1 (by rw [hz']; exact d2)
  · rw [← e1, ← e2]
    have := zfloor_c hm hm' hN hb hM d1 (by rw [hz']; exact d2)
    rwa [hz'] at this

set_option maxRecDepth 8000 in
theorem r2floor_a {w : World} {na0 : Bool} {A0 : Option Addr} {n0 c0 M0 N0 : Nat} (hm0 : Nz N0 w (.slice A0 n0 c0) M0) {na1 : Bool} {A1 : Option Addr} {n1 c1 M1 N1 : Nat} (hm1 : Nz N1 w (.slice A1 n1 c1) M1) (hN0 : N0 ≤ 17592186044000) (hN1 : N1 ≤ 17592186044000) (hb : 0 < M1) (hrr : (digs ((zof na0 M0) - ((zof (!(na0 == na1)) (M0 / M1)) * (zof na1 M1))).natAbs).length ≤ N0) (d1 : (((zof na0 M0) - ((zof (!(na0 == na1)) (M0 / M1)) * (zof na1 M1))).sign == 0) = true)  : Calls Try.prog 29 #[.agg #[.bool na0, .slice A0 n0 c0], .agg #[.bool na1, .slice A1 n1 c1]] w (Ret (.tup2 (.cz (zof (!(na0 == na1)) (M0 / M1))) (.cz ((zof na0 M0) - ((zof (!(na0 == na1)) (M0 / M1)) * (zof na1 M1))))) w) := by
  have ha0 : Az N0 w (.agg #[.bool na0, .slice A0 n0 c0]) (zof na0 M0) := Az.of_nz hm0
  have la0 := ha0.len
  have ha1 : Az N1 w (.agg #[.bool na1, .slice A1 n1 c1]) (zof na1 M1) := Az.of_nz hm1
  have la1 := ha1.len
  have T0 : Below w.heap.size w w := Below.refl _ _
  go_enter Try.func29, Try.ntmps29
  refine wp_seq ?_
  have HB : w.heap.size ≤ w.heap.size := T0.size
  refine wp_plan_seq [.new 2 (some (24, #[.bool na0, .slice A0 n0 c0])), .new 2 (some (24, #[.bool na1, .slice A1 n1 c1])), .new 2 (some (24, #[.bool false, .slice none 0 0])), .new 2 (some (24, #[.bool false, .slice none 0 0]))] [] [] w.heap.size (by kernel_rfl) (by kernel_rfl) trivial HB ?_ ?_
  · exact ⟨fun s v h => does_new rfl rfl (x_box_z (h.same 0 rfl)) (okz _ _ _ _) rfl (.inr rfl),
      fun s v h => does_new rfl rfl (x_box_z (h.same 1 rfl)) (okz _ _ _ _) rfl (.inr rfl),
      fun s v h => does_new rfl rfl x_alloc_z (okz _ _ _ _) rfl (.inr rfl),
      fun s v h => does_new rfl rfl x_alloc_z (okz _ _ _ _) rfl (.inr rfl), trivial⟩
  intro g795 ts v795 hts E795
  simp only [fillL, Nat.reduceAdd, List.setIfInBounds_toArray, List.set_cons_zero, List.set_cons_succ] at hts
  subst hts
  have T796 : Below w.heap.size w v795 := T0.trans E795.below
  have f797 := ha0.mono E795.mono
  have f798 := hm0.mono E795.mono
  have f799 := ha1.mono E795.mono
  have f800 := hm1.mono E795.mono
  obtain ⟨q801, p802, l803, o804, b805⟩ : ∃ q, g795 0 = .pointer (some ⟨q, 0, none⟩) ∧ w.heap.size ≤ q ∧ OkB v795 q 2 ∧ Bx v795 q 24 #[.bool na0, .slice A0 n0 c0] := E795.facts 0 (by decide)
  have h806 : w.heap.size ≤ q801 := Nat.le_trans HB l803
  obtain ⟨q807, p808, l809, o810, b811⟩ : ∃ q, g795 1 = .pointer (some ⟨q, 0, none⟩) ∧ w.heap.size ≤ q ∧ OkB v795 q 2 ∧ Bx v795 q 24 #[.bool na1, .slice A1 n1 c1] := E795.facts 1 (by decide)
  have h812 : w.heap.size ≤ q807 := Nat.le_trans HB l809
  have n813 : q801 ≠ q807 := apart_ne (E795.apart 0 1 (by decide) (by decide) (by decide) ⟨_, _, rfl⟩ ⟨_, _, rfl⟩) p802 p808
  obtain ⟨q814, p815, l816, o817, b818⟩ : ∃ q, g795 2 = .pointer (some ⟨q, 0, none⟩) ∧ w.heap.size ≤ q ∧ OkB v795 q 2 ∧ Bx v795 q 24 #[.bool false, .slice none 0 0] := E795.facts 2 (by decide)
  have f819 : Cz v795 (.agg #[.bool false, .slice none 0 0]) 0 := cz_zero _
  have h820 : w.heap.size ≤ q814 := Nat.le_trans HB l816
  have n821 : q801 ≠ q814 := apart_ne (E795.apart 0 2 (by decide) (by decide) (by decide) ⟨_, _, rfl⟩ ⟨_, _, rfl⟩) p802 p815
  have n822 : q807 ≠ q814 := apart_ne (E795.apart 1 2 (by decide) (by decide) (by decide) ⟨_, _, rfl⟩ ⟨_, _, rfl⟩) p808 p815
  obtain ⟨q823, p824, l825, o826, b827⟩ : ∃ q, g795 3 = .pointer (some ⟨q, 0, none⟩) ∧ w.heap.size ≤ q ∧ OkB v795 q 2 ∧ Bx v795 q 24 #[.bool false, .slice none 0 0] := E795.facts 3 (by decide)
  have f828 : Cz v795 (.agg #[.bool false, .slice none 0 0]) 0 := cz_zero _
  have h829 : w.heap.size ≤ q823 := Nat.le_trans HB l825
  have n830 : q801 ≠ q823 := apart_ne (E795.apart 0 3 (by decide) (by decide) (by decide) ⟨_, _, rfl⟩ ⟨_, _, rfl⟩) p802 p824
  have n831 : q807 ≠ q823 := apart_ne (E795.apart 1 3 (by decide) (by decide) (by decide) ⟨_, _, rfl⟩ ⟨_, _, rfl⟩) p808 p824
  have n832 : q814 ≠ q823 := apart_ne (E795.apart 2 3 (by decide) (by decide) (by decide) ⟨_, _, rfl⟩ ⟨_, _, rfl⟩) p815 p824
  refine then_normal ?_
  refine wp_seq ?_
  have HB : w.heap.size ≤ v795.heap.size := T796.size
  refine wp_plan_seq [.val (.is (.pointer (some ⟨q801, 1, none⟩))), .val (.nz N0 M0), .val (.is (.pointer (some ⟨q807, 1, none⟩))), .val (.nz N1 M1), .val (.tup3 (.nz N0 (M0 / M1)) (.nz N0 (M0 % M1)) (.is (.int .i64 0))), .val (.tup3 (.nz N0 (M0 / M1)) (.nz N0 (M0 % M1)) (.is (.int .i64 0))), .val (.nz N0 (M0 / M1)), .val (.nz N0 (M0 % M1)), .val (.is (.int .i64 0)), .val (.nz N0 (M0 / M1)), .val (.nz N0 (M0 % M1)), .val (.is (.int .i64 0))] [] [] w.heap.size (by kernel_rfl) (by kernel_rfl) trivial HB ?_ ?_
  · exact ⟨fun s v h => does_val rfl rfl (x_fld (by decide) ((h.same 2 rfl).trans p802)) rfl,
      fun s v h => does_val rfl rfl (x_load_s (h.dep 0 rfl) ((h.far q801 b805.lt (by simp)).trans b805)) (f798.mono h.mono),
      fun s v h => does_val rfl rfl (x_fld (by decide) ((h.same 3 rfl).trans p808)) rfl,
      fun s v h => does_val rfl rfl (x_load_s (h.dep 2 rfl) ((h.far q807 b811.lt (by simp)).trans b811)) (f800.mono h.mono),
      fun s v h => does_call rfl rfl (x_call2 Try.call69) (rdiv_k (h.dep 1 rfl) (h.dep 3 rfl) (by omega) (by omega) (by omega)),
      fun s v h => does_val rfl rfl (x_move) (h.dep 4 rfl),
      fun s v h => by obtain ⟨r0, r1, r2, e, f0, f1, f2⟩ := tup3_at (h.dep 5 rfl); exact does_val rfl rfl (x_ext e rfl) f0,
      fun s v h => by obtain ⟨r0, r1, r2, e, f0, f1, f2⟩ := tup3_at (h.dep 5 rfl); exact does_val rfl rfl (x_ext e rfl) f1,
      fun s v h => by obtain ⟨r0, r1, r2, e, f0, f1, f2⟩ := tup3_at (h.dep 5 rfl); exact does_val rfl rfl (x_ext e rfl) f2,
      fun s v h => does_val rfl rfl (x_assign) (h.dep 6 rfl),
      fun s v h => does_val rfl rfl (x_assign) (h.dep 7 rfl),
      fun s v h => does_val rfl rfl (x_assign) (h.dep 8 rfl), trivial⟩
  intro g833 ts v833 hts E833
  simp only [fillL, Nat.reduceAdd, List.setIfInBounds_toArray, List.set_cons_zero, List.set_cons_succ] at hts
  subst hts
  have T834 : Below w.heap.size w v833 := T796.trans E833.below
  have l835 : q801 < v795.heap.size := b805.lt
  have l836 : q807 < v795.heap.size := b811.lt
  have l837 : q814 < v795.heap.size := b818.lt
  have l838 : q823 < v795.heap.size := b827.lt
  have b839 : Bx v833 q801 24 #[.bool na0, .slice A0 n0 c0] := (E833.far q801 b805.lt (by simp)).trans b805
  have b840 : Bx v833 q807 24 #[.bool na1, .slice A1 n1 c1] := (E833.far q807 b811.lt (by simp)).trans b811
  have b841 : Bx v833 q814 24 #[.bool false, .slice none 0 0] := (E833.far q814 b818.lt (by simp)).trans b818
  have b842 : Bx v833 q823 24 #[.bool false, .slice none 0 0] := (E833.far q823 b827.lt (by simp)).trans b827
  have f843 := f797.mono E833.mono
  have f844 := f798.mono E833.mono
  have f845 := f799.mono E833.mono
  have f846 := f800.mono E833.mono
  have f847 := f819.mono E833.mono
  have f848 := f828.mono E833.mono
  have f849 : Nz N0 v833 (g833 1) M0 := E833.facts 1 (by decide)
  have f850 : Nz N1 v833 (g833 3) M1 := E833.facts 3 (by decide)
  have f851 : Nz N0 v833 (g833 6) (M0 / M1) := E833.facts 6 (by decide)
  have f852 : Nz N0 v833 (g833 7) (M0 % M1) := E833.facts 7 (by decide)
  have e853 : g833 8 = (.int .i64 0) := E833.facts 8 (by decide)
  have f854 : Nz N0 v833 (g833 9) (M0 / M1) := E833.facts 9 (by decide)
  have f855 : Nz N0 v833 (g833 10) (M0 % M1) := E833.facts 10 (by decide)
  have e856 : g833 11 = (.int .i64 0) := E833.facts 11 (by decide)
  refine then_normal ?_
  refine wp_seq ?_
  have HB : w.heap.size ≤ v833.heap.size := T834.size
  refine wp_plan_seq [.val (.is (.pointer (some ⟨q801, 0, none⟩))), .val (.is (.bool na0)), .val (.is (.pointer (some ⟨q807, 0, none⟩))), .val (.is (.bool na1)), .val (.is (.bool (!(na0 == na1)))), .val (.nz N0 (M0 / M1)), .val (.cz (zof (!(na0 == na1)) (M0 / M1))), .new 2 none, .put 9 26] [] [] w.heap.size (by kernel_rfl) (by kernel_rfl) trivial HB ?_ ?_
  · exact ⟨fun s v h => does_val rfl rfl (x_fld (by decide) ((h.same 2 rfl).trans p802)) rfl,
      fun s v h => does_val rfl rfl (x_load_b (h.dep 0 rfl) ((h.far q801 b839.lt (by simp)).trans b839)) rfl,
      fun s v h => does_val rfl rfl (x_fld (by decide) ((h.same 3 rfl).trans p808)) rfl,
      fun s v h => does_val rfl rfl (x_load_b (h.dep 2 rfl) ((h.far q807 b840.lt (by simp)).trans b840)) rfl,
      fun s v h => does_val rfl rfl (x_neq_bool (h.dep 1 rfl) (h.dep 3 rfl)) rfl,
      fun s v h => does_val rfl rfl (x_move) ((f854.mono h.mono).at (h.same 6 rfl)),
      fun s v h => does_call rfl rfl (x_call2 Try.call59) (rmade_k (h.dep 4 rfl) (h.dep 5 rfl) (by omega)),
      fun s v h => does_new rfl rfl x_alloc_z (okz _ _ _ _) rfl (.inl rfl),
      fun s v h => by obtain ⟨q, e1, e2, e3⟩ := new_at (h.dep 7 rfl); exact does_put_z rfl rfl e1 (h.dep 6 rfl).shape e3 (Nat.le_trans HB e2), trivial⟩
  intro g857 ts v857 hts E857
  simp only [fillL, Nat.reduceAdd, List.setIfInBounds_toArray, List.set_cons_zero, List.set_cons_succ] at hts
  subst hts
  have T858 : Below w.heap.size w v857 := T834.trans E857.below
  have l859 : q801 < v833.heap.size := b839.lt
  have l860 : q807 < v833.heap.size := b840.lt
  have l861 : q814 < v833.heap.size := b841.lt
  have l862 : q823 < v833.heap.size := b842.lt
  have b863 : Bx v857 q801 24 #[.bool na0, .slice A0 n0 c0] := (E857.far q801 b839.lt (by simp)).trans b839
  have b864 : Bx v857 q807 24 #[.bool na1, .slice A1 n1 c1] := (E857.far q807 b840.lt (by simp)).trans b840
  have b865 : Bx v857 q814 24 #[.bool false, .slice none 0 0] := (E857.far q814 b841.lt (by simp)).trans b841
  have b866 : Bx v857 q823 24 #[.bool false, .slice none 0 0] := (E857.far q823 b842.lt (by simp)).trans b842
  have f867 := f843.mono E857.mono
  have f868 := f844.mono E857.mono
  have f869 := f845.mono E857.mono
  have f870 := f846.mono E857.mono
  have f871 := f847.mono E857.mono
  have f872 := f848.mono E857.mono
  have f873 := f849.mono E857.mono
  have f874 := f850.mono E857.mono
  have f875 := f851.mono E857.mono
  have f876 := f852.mono E857.mono
  have f877 := f854.mono E857.mono
  have f878 := f855.mono E857.mono
  have e879 : g857 1 = (.bool na0) := E857.facts 1 (by decide)
  have e880 : g857 3 = (.bool na1) := E857.facts 3 (by decide)
  have e881 : g857 4 = (.bool (!(na0 == na1))) := E857.facts 4 (by decide)
  have f882 : Nz N0 v857 (g857 5) (M0 / M1) := E857.facts 5 (by decide)
  have f883 : Cz v857 (g857 6) (zof (!(na0 == na1)) (M0 / M1)) := E857.facts 6 (by decide)
  obtain ⟨q884, p885, l886, o887⟩ : ∃ q, g857 7 = .pointer (some ⟨q, 0, none⟩) ∧ v833.heap.size ≤ q ∧ OkB v857 q 2 := E857.facts 7 (by decide)
  have h888 : w.heap.size ≤ q884 := Nat.le_trans HB l886
  have n889 : q801 ≠ q884 := by omega
  have n890 : q807 ≠ q884 := by omega
  have n891 : q814 ≠ q884 := by omega
  have n892 : q823 ≠ q884 := by omega
  obtain ⟨t893, x895, A896, m897, c898, e899, b894⟩ := put_info (E857.facts 8 (by decide)) p885 f883.shape
  have f900 : Cz v857 (.agg #[.bool x895, .slice A896 m897 c898]) (zof (!(na0 == na1)) (M0 / M1)) := f883.at e899.symm
  refine then_normal ?_
  refine wp_seq ?_
  have HB : w.heap.size ≤ v857.heap.size := T858.size
  refine wp_plan_any [.val (.az N0 (zof na0 M0)), .val (.cz (zof (!(na0 == na1)) (M0 / M1))), .val (.az N1 (zof na1 M1)), .val (.cz ((zof (!(na0 == na1)) (M0 / M1)) * (zof na1 M1))), .val (.cz ((zof na0 M0) - ((zof (!(na0 == na1)) (M0 / M1)) * (zof na1 M1)))), .new 2 none, .put 10 31] [] [] w.heap.size (by kernel_rfl) (by kernel_rfl) (by kernel_rfl) trivial HB ?_ ?_
  · exact ⟨fun s v h => does_val rfl rfl (x_load_z ((h.same 2 rfl).trans p802) ((h.far q801 b863.lt (by simp)).trans b863)) (f867.mono ((Mono.drew _).trans h.mono)),
      fun s v h => does_val rfl rfl (x_load_z ((h.same 9 rfl).trans p885) ((h.far q884 b894.lt (by simp)).trans b894)) (f900.mono ((Mono.drew _).trans h.mono)),
      fun s v h => does_val rfl rfl (x_load_z ((h.same 3 rfl).trans p808) ((h.far q807 b864.lt (by simp)).trans b864)) (f869.mono ((Mono.drew _).trans h.mono)),
      fun s v h => does_call rfl rfl (x_call2 Try.call71) (r2mul_k ((h.dep 1 rfl).az (N := N0) (by rw [zof_abs]; exact Nat.le_trans (dl_le (Nat.div_le_self M0 M1)) hm0.len)) (h.dep 2 rfl) (by omega)),
      fun s v h => does_call rfl rfl (x_call2 Try.call70) (r2sub_k (h.dep 0 rfl) ((h.dep 3 rfl).az (N := (N0 + N1)) (len_mul (by rw [zof_abs]; exact Nat.le_trans (dl_le (Nat.div_le_self M0 M1)) hm0.len) la1)) (by omega) (by omega)),
      fun s v h => does_new rfl rfl x_alloc_z (okz _ _ _ _) rfl (.inl rfl),
      fun s v h => by obtain ⟨q, e1, e2, e3⟩ := new_at (h.dep 5 rfl); exact does_put_z rfl rfl e1 (h.dep 4 rfl).shape e3 (Nat.le_trans HB e2), trivial⟩
  intro g901 ts v901 hts E901
  simp only [fillL, Nat.reduceAdd, List.setIfInBounds_toArray, List.set_cons_zero, List.set_cons_succ] at hts
  subst hts
  have T902 : Below w.heap.size w v901 := (below_toDrew T858).trans E901.below
  have l903 : q801 < v857.heap.size := b863.lt
  have l904 : q807 < v857.heap.size := b864.lt
  have l905 : q814 < v857.heap.size := b865.lt
  have l906 : q823 < v857.heap.size := b866.lt
  have l907 : q884 < v857.heap.size := b894.lt
  have b908 : Bx v901 q801 24 #[.bool na0, .slice A0 n0 c0] := (E901.far q801 b863.lt (by simp)).trans b863
  have b909 : Bx v901 q807 24 #[.bool na1, .slice A1 n1 c1] := (E901.far q807 b864.lt (by simp)).trans b864
  have b910 : Bx v901 q814 24 #[.bool false, .slice none 0 0] := (E901.far q814 b865.lt (by simp)).trans b865
  have b911 : Bx v901 q823 24 #[.bool false, .slice none 0 0] := (E901.far q823 b866.lt (by simp)).trans b866
  have b912 : Bx v901 q884 t893 #[.bool x895, .slice A896 m897 c898] := (E901.far q884 b894.lt (by simp)).trans b894
  have f913 := f867.mono ((Mono.drew _).trans E901.mono)
  have f914 := f868.mono ((Mono.drew _).trans E901.mono)
  have f915 := f869.mono ((Mono.drew _).trans E901.mono)
  have f916 := f870.mono ((Mono.drew _).trans E901.mono)
  have f917 := f871.mono ((Mono.drew _).trans E901.mono)
  have f918 := f872.mono ((Mono.drew _).trans E901.mono)
  have f919 := f873.mono ((Mono.drew _).trans E901.mono)
  have f920 := f874.mono ((Mono.drew _).trans E901.mono)
  have f921 := f875.mono ((Mono.drew _).trans E901.mono)
  have f922 := f876.mono ((Mono.drew _).trans E901.mono)
  have f923 := f877.mono ((Mono.drew _).trans E901.mono)
  have f924 := f878.mono ((Mono.drew _).trans E901.mono)
  have f925 := f882.mono ((Mono.drew _).trans E901.mono)
  have f926 := f883.mono ((Mono.drew _).trans E901.mono)
  have f927 := f900.mono ((Mono.drew _).trans E901.mono)
  have f928 : Az N0 v901 (g901 0) (zof na0 M0) := E901.facts 0 (by decide)
  have f929 : Cz v901 (g901 1) (zof (!(na0 == na1)) (M0 / M1)) := E901.facts 1 (by decide)
  have f930 : Az N1 v901 (g901 2) (zof na1 M1) := E901.facts 2 (by decide)
  have f931 : Cz v901 (g901 3) ((zof (!(na0 == na1)) (M0 / M1)) * (zof na1 M1)) := E901.facts 3 (by decide)
  have f932 : Cz v901 (g901 4) ((zof na0 M0) - ((zof (!(na0 == na1)) (M0 / M1)) * (zof na1 M1))) := E901.facts 4 (by decide)
  obtain ⟨q933, p934, l935, o936⟩ : ∃ q, g901 5 = .pointer (some ⟨q, 0, none⟩) ∧ v857.heap.size ≤ q ∧ OkB v901 q 2 := E901.facts 5 (by decide)
  have h937 : w.heap.size ≤ q933 := Nat.le_trans HB l935
  have n938 : q801 ≠ q933 := by omega
  have n939 : q807 ≠ q933 := by omega
  have n940 : q814 ≠ q933 := by omega
  have n941 : q823 ≠ q933 := by omega
  have n942 : q884 ≠ q933 := by omega
  obtain ⟨t943, x945, A946, m947, c948, e949, b944⟩ := put_info (E901.facts 6 (by decide)) p934 f932.shape
  have f950 : Cz v901 (.agg #[.bool x945, .slice A946 m947 c948]) ((zof na0 M0) - ((zof (!(na0 == na1)) (M0 / M1)) * (zof na1 M1))) := f932.at e949.symm
  refine then_normal ?_
  refine wp_seq ?_
  refine wp_seq ?_
  have HB : w.heap.size ≤ v901.heap.size := T902.size
  refine wp_plan_any [.val (.cz ((zof na0 M0) - ((zof (!(na0 == na1)) (M0 / M1)) * (zof na1 M1)))), .val (.is (.int .i64 ((zof na0 M0) - ((zof (!(na0 == na1)) (M0 / M1)) * (zof na1 M1))).sign)), .val (.is (.bool false)), .val (.is (.bool false)), .val .any, .val .any, .val .any, .val .any, .val .any, .val (.is (.bool false))] [] [] w.heap.size (by kernel_rfl) (by kernel_rfl) (by kernel_rfl) trivial HB ?_ ?_
  · exact ⟨fun s v h => does_val rfl rfl (x_load_z ((h.same 10 rfl).trans p934) ((h.far q933 b944.lt (by simp)).trans b944)) (f950.mono ((Mono.drew _).trans h.mono)),
      fun s v h => does_call rfl rfl (x_call1 Try.call28) (r2sign_k ((h.dep 0 rfl).az (N := N0) hrr) (by omega)),
      fun s v h => does_val rfl rfl (x_neq_int (h.dep 1 rfl) rfl) (congrArg (fun x => Value.bool (!x)) d1),
      fun s v h => does_val rfl rfl (x_move) (h.dep 2 rfl),
      fun s v h => does_skip rfl (wanted_by (b := false) (want := true) rfl rfl (h.dep 3 rfl)) trivial,
      fun s v h => does_skip rfl (wanted_by (b := false) (want := true) rfl rfl (h.dep 3 rfl)) trivial,
      fun s v h => does_skip rfl (wanted_by (b := false) (want := true) rfl rfl (h.dep 3 rfl)) trivial,
      fun s v h => does_skip rfl (wanted_by (b := false) (want := true) rfl rfl (h.dep 3 rfl)) trivial,
      fun s v h => does_skip rfl (wanted_by (b := false) (want := true) rfl rfl (h.dep 3 rfl)) trivial,
      fun s v h => does_val rfl rfl (x_pick (h.dep 3 rfl)) rfl, trivial⟩
  intro g951 ts v951 hts E951
  simp only [fillL, Nat.reduceAdd, List.setIfInBounds_toArray, List.set_cons_zero, List.set_cons_succ] at hts
  subst hts
  have T952 : Below w.heap.size w v951 := (below_toDrew T902).trans E951.below
  have l953 : q801 < v901.heap.size := b908.lt
  have l954 : q807 < v901.heap.size := b909.lt
  have l955 : q814 < v901.heap.size := b910.lt
  have l956 : q823 < v901.heap.size := b911.lt
  have l957 : q884 < v901.heap.size := b912.lt
  have l958 : q933 < v901.heap.size := b944.lt
  have b959 : Bx v951 q801 24 #[.bool na0, .slice A0 n0 c0] := (E951.far q801 b908.lt (by simp)).trans b908
  have b960 : Bx v951 q807 24 #[.bool na1, .slice A1 n1 c1] := (E951.far q807 b909.lt (by simp)).trans b909
  have b961 : Bx v951 q814 24 #[.bool false, .slice none 0 0] := (E951.far q814 b910.lt (by simp)).trans b910
  have b962 : Bx v951 q823 24 #[.bool false, .slice none 0 0] := (E951.far q823 b911.lt (by simp)).trans b911
  have b963 : Bx v951 q884 t893 #[.bool x895, .slice A896 m897 c898] := (E951.far q884 b912.lt (by simp)).trans b912
  have b964 : Bx v951 q933 t943 #[.bool x945, .slice A946 m947 c948] := (E951.far q933 b944.lt (by simp)).trans b944
  have f965 := f913.mono ((Mono.drew _).trans E951.mono)
  have f966 := f914.mono ((Mono.drew _).trans E951.mono)
  have f967 := f915.mono ((Mono.drew _).trans E951.mono)
  have f968 := f916.mono ((Mono.drew _).trans E951.mono)
  have f969 := f917.mono ((Mono.drew _).trans E951.mono)
  have f970 := f918.mono ((Mono.drew _).trans E951.mono)
  have f971 := f919.mono ((Mono.drew _).trans E951.mono)
  have f972 := f920.mono ((Mono.drew _).trans E951.mono)
  have f973 := f921.mono ((Mono.drew _).trans E951.mono)
  have f974 := f922.mono ((Mono.drew _).trans E951.mono)
  have f975 := f923.mono ((Mono.drew _).trans E951.mono)
  have f976 := f924.mono ((Mono.drew _).trans E951.mono)
  have f977 := f925.mono ((Mono.drew _).trans E951.mono)
  have f978 := f926.mono ((Mono.drew _).trans E951.mono)
  have f979 := f927.mono ((Mono.drew _).trans E951.mono)
  have f980 := f928.mono ((Mono.drew _).trans E951.mono)
  have f981 := f929.mono ((Mono.drew _).trans E951.mono)
  have f982 := f930.mono ((Mono.drew _).trans E951.mono)
  have f983 := f931.mono ((Mono.drew _).trans E951.mono)
  have f984 := f932.mono ((Mono.drew _).trans E951.mono)
  have f985 := f950.mono ((Mono.drew _).trans E951.mono)
  have f986 : Cz v951 (g951 0) ((zof na0 M0) - ((zof (!(na0 == na1)) (M0 / M1)) * (zof na1 M1))) := E951.facts 0 (by decide)
  have e987 : g951 1 = (.int .i64 ((zof na0 M0) - ((zof (!(na0 == na1)) (M0 / M1)) * (zof na1 M1))).sign) := E951.facts 1 (by decide)
  have e988 : g951 2 = (.bool false) := E951.facts 2 (by decide)
  have e989 : g951 3 = (.bool false) := E951.facts 3 (by decide)
  have e990 : g951 9 = (.bool false) := E951.facts 9 (by decide)
  refine then_normal ?_
  refine wp_cond_false e990 ?_
  refine wp_skip ?_
  refine then_normal ?_
  refine wp_seq ?_
  have HB : w.heap.size ≤ v951.heap.size := T952.size
  refine wp_plan_any [.val (.cz (zof (!(na0 == na1)) (M0 / M1))), .val (.cz ((zof na0 M0) - ((zof (!(na0 == na1)) (M0 / M1)) * (zof na1 M1)))), .put 4 48, .put 5 49] [4, 5] [q814, q823] w.heap.size (by kernel_rfl) (by kernel_rfl) (by kernel_rfl) ⟨p815, b961.lt, (nin1 n832), ⟨p824, b962.lt, (by simp), trivial⟩⟩ HB ?_ ?_
  · exact ⟨fun s v h => does_val rfl rfl (x_load_z ((h.same 9 rfl).trans p885) ((h.far q884 b963.lt (nin2 n891.symm n892.symm)).trans b963)) (f979.mono ((Mono.drew _).trans h.mono)),
      fun s v h => does_val rfl rfl (x_load_z ((h.same 10 rfl).trans p934) ((h.far q933 b964.lt (nin2 n940.symm n941.symm)).trans b964)) (f985.mono ((Mono.drew _).trans h.mono)),
      fun s v h => does_put_z rfl rfl ((h.same 4 rfl).trans p815) (h.dep 0 rfl).shape (((Mono.drew _).trans h.mono).ok _ _ b961.ok2) h820,
      fun s v h => does_put_z rfl rfl ((h.same 5 rfl).trans p824) (h.dep 1 rfl).shape (((Mono.drew _).trans h.mono).ok _ _ b962.ok2) h829, trivial⟩
  intro g991 ts v991 hts E991
  simp only [fillL, Nat.reduceAdd, List.setIfInBounds_toArray, List.set_cons_zero, List.set_cons_succ] at hts
  subst hts
  have T992 : Below w.heap.size w v991 := (below_toDrew T952).trans E991.below
  have l993 : q801 < v951.heap.size := b959.lt
  have l994 : q807 < v951.heap.size := b960.lt
  have l995 : q814 < v951.heap.size := b961.lt
  have l996 : q823 < v951.heap.size := b962.lt
  have l997 : q884 < v951.heap.size := b963.lt
  have l998 : q933 < v951.heap.size := b964.lt
  have b999 : Bx v991 q801 24 #[.bool na0, .slice A0 n0 c0] := (E991.far q801 b959.lt (nin2 n821 n830)).trans b959
  have b1000 : Bx v991 q807 24 #[.bool na1, .slice A1 n1 c1] := (E991.far q807 b960.lt (nin2 n822 n831)).trans b960
  have b1001 : Bx v991 q884 t893 #[.bool x895, .slice A896 m897 c898] := (E991.far q884 b963.lt (nin2 n891.symm n892.symm)).trans b963
  have b1002 : Bx v991 q933 t943 #[.bool x945, .slice A946 m947 c948] := (E991.far q933 b964.lt (nin2 n940.symm n941.symm)).trans b964
  have f1003 := f965.mono ((Mono.drew _).trans E991.mono)
  have f1004 := f966.mono ((Mono.drew _).trans E991.mono)
  have f1005 := f967.mono ((Mono.drew _).trans E991.mono)
  have f1006 := f968.mono ((Mono.drew _).trans E991.mono)
  have f1007 := f969.mono ((Mono.drew _).trans E991.mono)
  have f1008 := f970.mono ((Mono.drew _).trans E991.mono)
  have f1009 := f971.mono ((Mono.drew _).trans E991.mono)
  have f1010 := f972.mono ((Mono.drew _).trans E991.mono)
  have f1011 := f973.mono ((Mono.drew _).trans E991.mono)
  have f1012 := f974.mono ((Mono.drew _).trans E991.mono)
  have f1013 := f975.mono ((Mono.drew _).trans E991.mono)
  have f1014 := f976.mono ((Mono.drew _).trans E991.mono)
  have f1015 := f977.mono ((Mono.drew _).trans E991.mono)
  have f1016 := f978.mono ((Mono.drew _).trans E991.mono)
  have f1017 := f979.mono ((Mono.drew _).trans E991.mono)
  have f1018 := f980.mono ((Mono.drew _).trans E991.mono)
  have f1019 := f981.mono ((Mono.drew _).trans E991.mono)
  have f1020 := f982.mono ((Mono.drew _).trans E991.mono)
  have f1021 := f983.mono ((Mono.drew _).trans E991.mono)
  have f1022 := f984.mono ((Mono.drew _).trans E991.mono)
  have f1023 := f985.mono ((Mono.drew _).trans E991.mono)
  have f1024 := f986.mono ((Mono.drew _).trans E991.mono)
  have f1025 : Cz v991 (g991 0) (zof (!(na0 == na1)) (M0 / M1)) := E991.facts 0 (by decide)
  have f1026 : Cz v991 (g991 1) ((zof na0 M0) - ((zof (!(na0 == na1)) (M0 / M1)) * (zof na1 M1))) := E991.facts 1 (by decide)
  obtain ⟨t1027, x1029, A1030, m1031, c1032, e1033, b1028⟩ := put_info (E991.facts 2 (by decide)) p815 f1025.shape
  have f1034 : Cz v991 (.agg #[.bool x1029, .slice A1030 m1031 c1032]) (zof (!(na0 == na1)) (M0 / M1)) := f1025.at e1033.symm
  obtain ⟨t1035, x1037, A1038, m1039, c1040, e1041, b1036⟩ := put_info (E991.facts 3 (by decide)) p824 f1026.shape
  have f1042 : Cz v991 (.agg #[.bool x1037, .slice A1038 m1039 c1040]) ((zof na0 M0) - ((zof (!(na0 == na1)) (M0 / M1)) * (zof na1 M1))) := f1026.at e1041.symm
  refine then_normal ?_
  refine wp_ret ?_
  exact bodyPost_ret (ret_cc rfl p815 b1028 p824 b1036) rfl ⟨_, rfl, ⟨_, _, rfl, f1034, f1042⟩, T992⟩

set_option maxRecDepth 8000 in
theorem r2floor_b {w : World} {na0 : Bool} {A0 : Option Addr} {n0 c0 M0 N0 : Nat} (hm0 : Nz N0 w (.slice A0 n0 c0) M0) {na1 : Bool} {A1 : Option Addr} {n1 c1 M1 N1 : Nat} (hm1 : Nz N1 w (.slice A1 n1 c1) M1) (hN0 : N0 ≤ 17592186044000) (hN1 : N1 ≤ 17592186044000) (hb : 0 < M1) (hrr : (digs ((zof na0 M0) - ((zof (!(na0 == na1)) (M0 / M1)) * (zof na1 M1))).natAbs).length ≤ N0) (d1 : (((zof na0 M0) - ((zof (!(na0 == na1)) (M0 / M1)) * (zof na1 M1))).sign == 0) = false) (d2 : (((zof na0 M0) - ((zof (!(na0 == na1)) (M0 / M1)) * (zof na1 M1))).sign == (zof na1 M1).sign) = true)  : Calls Try.prog 29 #[.agg #[.bool na0, .slice A0 n0 c0], .agg #[.bool na1, .slice A1 n1 c1]] w (Ret (.tup2 (.cz (zof (!(na0 == na1)) (M0 / M1))) (.cz ((zof na0 M0) - ((zof (!(na0 == na1)) (M0 / M1)) * (zof na1 M1))))) w) := by
  have ha0 : Az N0 w (.agg #[.bool na0, .slice A0 n0 c0]) (zof na0 M0) := Az.of_nz hm0
  have la0 := ha0.len
  have ha1 : Az N1 w (.agg #[.bool na1, .slice A1 n1 c1]) (zof na1 M1) := Az.of_nz hm1
  have la1 := ha1.len
  have T0 : Below w.heap.size w w := Below.refl _ _
  go_enter Try.func29, Try.ntmps29
  refine wp_seq ?_
  have HB : w.heap.size ≤ w.heap.size := T0.size
  refine wp_plan_seq [.new 2 (some (24, #[.bool na0, .slice A0 n0 c0])), .new 2 (some (24, #[.bool na1, .slice A1 n1 c1])), .new 2 (some (24, #[.bool false, .slice none 0 0])), .new 2 (some (24, #[.bool false, .slice none 0 0]))] [] [] w.heap.size (by kernel_rfl) (by kernel_rfl) trivial HB ?_ ?_
  · exact ⟨fun s v h => does_new rfl rfl (x_box_z (h.same 0 rfl)) (okz _ _ _ _) rfl (.inr rfl),
      fun s v h => does_new rfl rfl (x_box_z (h.same 1 rfl)) (okz _ _ _ _) rfl (.inr rfl),
      fun s v h => does_new rfl rfl x_alloc_z (okz _ _ _ _) rfl (.inr rfl),
      fun s v h => does_new rfl rfl x_alloc_z (okz _ _ _ _) rfl (.inr rfl), trivial⟩
  intro g1043 ts v1043 hts E1043
  simp only [fillL, Nat.reduceAdd, List.setIfInBounds_toArray, List.set_cons_zero, List.set_cons_succ] at hts
  subst hts
  have T1044 : Below w.heap.size w v1043 := T0.trans E1043.below
  have f1045 := ha0.mono E1043.mono
  have f1046 := hm0.mono E1043.mono
  have f1047 := ha1.mono E1043.mono
  have f1048 := hm1.mono E1043.mono
  obtain ⟨q1049, p1050, l1051, o1052, b1053⟩ : ∃ q, g1043 0 = .pointer (some ⟨q, 0, none⟩) ∧ w.heap.size ≤ q ∧ OkB v1043 q 2 ∧ Bx v1043 q 24 #[.bool na0, .slice A0 n0 c0] := E1043.facts 0 (by decide)
  have h1054 : w.heap.size ≤ q1049 := Nat.le_trans HB l1051
  obtain ⟨q1055, p1056, l1057, o1058, b1059⟩ : ∃ q, g1043 1 = .pointer (some ⟨q, 0, none⟩) ∧ w.heap.size ≤ q ∧ OkB v1043 q 2 ∧ Bx v1043 q 24 #[.bool na1, .slice A1 n1 c1] := E1043.facts 1 (by decide)
  have h1060 : w.heap.size ≤ q1055 := Nat.le_trans HB l1057
  have n1061 : q1049 ≠ q1055 := apart_ne (E1043.apart 0 1 (by decide) (by decide) (by decide) ⟨_, _, rfl⟩ ⟨_, _, rfl⟩) p1050 p1056
  obtain ⟨q1062, p1063, l1064, o1065, b1066⟩ : ∃ q, g1043 2 = .pointer (some ⟨q, 0, none⟩) ∧ w.heap.size ≤ q ∧ OkB v1043 q 2 ∧ Bx v1043 q 24 #[.bool false, .slice none 0 0] := E1043.facts 2 (by decide)
  have f1067 : Cz v1043 (.agg #[.bool false, .slice none 0 0]) 0 := cz_zero _
  have h1068 : w.heap.size ≤ q1062 := Nat.le_trans HB l1064
  have n1069 : q1049 ≠ q1062 := apart_ne (E1043.apart 0 2 (by decide) (by decide) (by decide) ⟨_, _, rfl⟩ ⟨_, _, rfl⟩) p1050 p1063
  have n1070 : q1055 ≠ q1062 := apart_ne (E1043.apart 1 2 (by decide) (by decide) (by decide) ⟨_, _, rfl⟩ ⟨_, _, rfl⟩) p1056 p1063
  obtain ⟨q1071, p1072, l1073, o1074, b1075⟩ : ∃ q, g1043 3 = .pointer (some ⟨q, 0, none⟩) ∧ w.heap.size ≤ q ∧ OkB v1043 q 2 ∧ Bx v1043 q 24 #[.bool false, .slice none 0 0] := E1043.facts 3 (by decide)
  have f1076 : Cz v1043 (.agg #[.bool false, .slice none 0 0]) 0 := cz_zero _
  have h1077 : w.heap.size ≤ q1071 := Nat.le_trans HB l1073
  have n1078 : q1049 ≠ q1071 := apart_ne (E1043.apart 0 3 (by decide) (by decide) (by decide) ⟨_, _, rfl⟩ ⟨_, _, rfl⟩) p1050 p1072
  have n1079 : q1055 ≠ q1071 := apart_ne (E1043.apart 1 3 (by decide) (by decide) (by decide) ⟨_, _, rfl⟩ ⟨_, _, rfl⟩) p1056 p1072
  have n1080 : q1062 ≠ q1071 := apart_ne (E1043.apart 2 3 (by decide) (by decide) (by decide) ⟨_, _, rfl⟩ ⟨_, _, rfl⟩) p1063 p1072
  refine then_normal ?_
  refine wp_seq ?_
  have HB : w.heap.size ≤ v1043.heap.size := T1044.size
  refine wp_plan_seq [.val (.is (.pointer (some ⟨q1049, 1, none⟩))), .val (.nz N0 M0), .val (.is (.pointer (some ⟨q1055, 1, none⟩))), .val (.nz N1 M1), .val (.tup3 (.nz N0 (M0 / M1)) (.nz N0 (M0 % M1)) (.is (.int .i64 0))), .val (.tup3 (.nz N0 (M0 / M1)) (.nz N0 (M0 % M1)) (.is (.int .i64 0))), .val (.nz N0 (M0 / M1)), .val (.nz N0 (M0 % M1)), .val (.is (.int .i64 0)), .val (.nz N0 (M0 / M1)), .val (.nz N0 (M0 % M1)), .val (.is (.int .i64 0))] [] [] w.heap.size (by kernel_rfl) (by kernel_rfl) trivial HB ?_ ?_
  · exact ⟨fun s v h => does_val rfl rfl (x_fld (by decide) ((h.same 2 rfl).trans p1050)) rfl,
      fun s v h => does_val rfl rfl (x_load_s (h.dep 0 rfl) ((h.far q1049 b1053.lt (by simp)).trans b1053)) (f1046.mono h.mono),
      fun s v h => does_val rfl rfl (x_fld (by decide) ((h.same 3 rfl).trans p1056)) rfl,
      fun s v h => does_val rfl rfl (x_load_s (h.dep 2 rfl) ((h.far q1055 b1059.lt (by simp)).trans b1059)) (f1048.mono h.mono),
      fun s v h => does_call rfl rfl (x_call2 Try.call69) (rdiv_k (h.dep 1 rfl) (h.dep 3 rfl) (by omega) (by omega) (by omega)),
      fun s v h => does_val rfl rfl (x_move) (h.dep 4 rfl),
      fun s v h => by obtain ⟨r0, r1, r2, e, f0, f1, f2⟩ := tup3_at (h.dep 5 rfl); exact does_val rfl rfl (x_ext e rfl) f0,
      fun s v h => by obtain ⟨r0, r1, r2, e, f0, f1, f2⟩ := tup3_at (h.dep 5 rfl); exact does_val rfl rfl (x_ext e rfl) f1,
      fun s v h => by obtain ⟨r0, r1, r2, e, f0, f1, f2⟩ := tup3_at (h.dep 5 rfl); exact does_val rfl rfl (x_ext e rfl) f2,
      fun s v h => does_val rfl rfl (x_assign) (h.dep 6 rfl),
      fun s v h => does_val rfl rfl (x_assign) (h.dep 7 rfl),
      fun s v h => does_val rfl rfl (x_assign) (h.dep 8 rfl), trivial⟩
  intro g1081 ts v1081 hts E1081
  simp only [fillL, Nat.reduceAdd, List.setIfInBounds_toArray, List.set_cons_zero, List.set_cons_succ] at hts
  subst hts
  have T1082 : Below w.heap.size w v1081 := T1044.trans E1081.below
  have l1083 : q1049 < v1043.heap.size := b1053.lt
  have l1084 : q1055 < v1043.heap.size := b1059.lt
  have l1085 : q1062 < v1043.heap.size := b1066.lt
  have l1086 : q1071 < v1043.heap.size := b1075.lt
  have b1087 : Bx v1081 q1049 24 #[.bool na0, .slice A0 n0 c0] := (E1081.far q1049 b1053.lt (by simp)).trans b1053
  have b1088 : Bx v1081 q1055 24 #[.bool na1, .slice A1 n1 c1] := (E1081.far q1055 b1059.lt (by simp)).trans b1059
  have b1089 : Bx v1081 q1062 24 #[.bool false, .slice none 0 0] := (E1081.far q1062 b1066.lt (by simp)).trans b1066
  have b1090 : Bx v1081 q1071 24 #[.bool false, .slice none 0 0] := (E1081.far q1071 b1075.lt (by simp)).trans b1075
  have f1091 := f1045.mono E1081.mono
  have f1092 := f1046.mono E1081.mono
  have f1093 := f1047.mono E1081.mono
  have f1094 := f1048.mono E1081.mono
  have f1095 := f1067.mono E1081.mono
  have f1096 := f1076.mono E1081.mono
  have f1097 : Nz N0 v1081 (g1081 1) M0 := E1081.facts 1 (by decide)
  have f1098 : Nz N1 v1081 (g1081 3) M1 := E1081.facts 3 (by decide)
  have f1099 : Nz N0 v1081 (g1081 6) (M0 / M1) := E1081.facts 6 (by decide)
  have f1100 : Nz N0 v1081 (g1081 7) (M0 % M1) := E1081.facts 7 (by decide)
  have e1101 : g1081 8 = (.int .i64 0) := E1081.facts 8 (by decide)
  have f1102 : Nz N0 v1081 (g1081 9) (M0 / M1) := E1081.facts 9 (by decide)
  have f1103 : Nz N0 v1081 (g1081 10) (M0 % M1) := E1081.facts 10 (by decide)
  have e1104 : g1081 11 = (.int .i64 0) := E1081.facts 11 (by decide)
  refine then_normal ?_
  refine wp_seq ?_
  have HB : w.heap.size ≤ v1081.heap.size := T1082.size
  refine wp_plan_seq [.val (.is (.pointer (some ⟨q1049, 0, none⟩))), .val (.is (.bool na0)), .val (.is (.pointer (some ⟨q1055, 0, none⟩))), .val (.is (.bool na1)), .val (.is (.bool (!(na0 == na1)))), .val (.nz N0 (M0 / M1)), .val (.cz (zof (!(na0 == na1)) (M0 / M1))), .new 2 none, .put 9 26] [] [] w.heap.size (by kernel_rfl) (by kernel_rfl) trivial HB ?_ ?_
  · exact ⟨fun s v h => does_val rfl rfl (x_fld (by decide) ((h.same 2 rfl).trans p1050)) rfl,
      fun s v h => does_val rfl rfl (x_load_b (h.dep 0 rfl) ((h.far q1049 b1087.lt (by simp)).trans b1087)) rfl,
      fun s v h => does_val rfl rfl (x_fld (by decide) ((h.same 3 rfl).trans p1056)) rfl,
      fun s v h => does_val rfl rfl (x_load_b (h.dep 2 rfl) ((h.far q1055 b1088.lt (by simp)).trans b1088)) rfl,
      fun s v h => does_val rfl rfl (x_neq_bool (h.dep 1 rfl) (h.dep 3 rfl)) rfl,
      fun s v h => does_val rfl rfl (x_move) ((f1102.mono h.mono).at (h.same 6 rfl)),
      fun s v h => does_call rfl rfl (x_call2 Try.call59) (rmade_k (h.dep 4 rfl) (h.dep 5 rfl) (by omega)),
      fun s v h => does_new rfl rfl x_alloc_z (okz _ _ _ _) rfl (.inl rfl),
      fun s v h => by obtain ⟨q, e1, e2, e3⟩ := new_at (h.dep 7 rfl); exact does_put_z rfl rfl e1 (h.dep 6 rfl).shape e3 (Nat.le_trans HB e2), trivial⟩
  intro g1105 ts v1105 hts E1105
  simp only [fillL, Nat.reduceAdd, List.setIfInBounds_toArray, List.set_cons_zero, List.set_cons_succ] at hts
  subst hts
  have T1106 : Below w.heap.size w v1105 := T1082.trans E1105.below
  have l1107 : q1049 < v1081.heap.size := b1087.lt
  have l1108 : q1055 < v1081.heap.size := b1088.lt
  have l1109 : q1062 < v1081.heap.size := b1089.lt
  have l1110 : q1071 < v1081.heap.size := b1090.lt
  have b1111 : Bx v1105 q1049 24 #[.bool na0, .slice A0 n0 c0] := (E1105.far q1049 b1087.lt (by simp)).trans b1087
  have b1112 : Bx v1105 q1055 24 #[.bool na1, .slice A1 n1 c1] := (E1105.far q1055 b1088.lt (by simp)).trans b1088
  have b1113 : Bx v1105 q1062 24 #[.bool false, .slice none 0 0] := (E1105.far q1062 b1089.lt (by simp)).trans b1089
  have b1114 : Bx v1105 q1071 24 #[.bool false, .slice none 0 0] := (E1105.far q1071 b1090.lt (by simp)).trans b1090
  have f1115 := f1091.mono E1105.mono
  have f1116 := f1092.mono E1105.mono
  have f1117 := f1093.mono E1105.mono
  have f1118 := f1094.mono E1105.mono
  have f1119 := f1095.mono E1105.mono
  have f1120 := f1096.mono E1105.mono
  have f1121 := f1097.mono E1105.mono
  have f1122 := f1098.mono E1105.mono
  have f1123 := f1099.mono E1105.mono
  have f1124 := f1100.mono E1105.mono
  have f1125 := f1102.mono E1105.mono
  have f1126 := f1103.mono E1105.mono
  have e1127 : g1105 1 = (.bool na0) := E1105.facts 1 (by decide)
  have e1128 : g1105 3 = (.bool na1) := E1105.facts 3 (by decide)
  have e1129 : g1105 4 = (.bool (!(na0 == na1))) := E1105.facts 4 (by decide)
  have f1130 : Nz N0 v1105 (g1105 5) (M0 / M1) := E1105.facts 5 (by decide)
  have f1131 : Cz v1105 (g1105 6) (zof (!(na0 == na1)) (M0 / M1)) := E1105.facts 6 (by decide)
  obtain ⟨q1132, p1133, l1134, o1135⟩ : ∃ q, g1105 7 = .pointer (some ⟨q, 0, none⟩) ∧ v1081.heap.size ≤ q ∧ OkB v1105 q 2 := E1105.facts 7 (by decide)
  have h1136 : w.heap.size ≤ q1132 := Nat.le_trans HB l1134
  have n1137 : q1049 ≠ q1132 := by omega
  have n1138 : q1055 ≠ q1132 := by omega
  have n1139 : q1062 ≠ q1132 := by omega
  have n1140 : q1071 ≠ q1132 := by omega
  obtain ⟨t1141, x1143, A1144, m1145, c1146, e1147, b1142⟩ := put_info (E1105.facts 8 (by decide)) p1133 f1131.shape
  have f1148 : Cz v1105 (.agg #[.bool x1143, .slice A1144 m1145 c1146]) (zof (!(na0 == na1)) (M0 / M1)) := f1131.at e1147.symm
  refine then_normal ?_
  refine wp_seq ?_
  have HB : w.heap.size ≤ v1105.heap.size := T1106.size
  refine wp_plan_any [.val (.az N0 (zof na0 M0)), .val (.cz (zof (!(na0 == na1)) (M0 / M1))), .val (.az N1 (zof na1 M1)), .val (.cz ((zof (!(na0 == na1)) (M0 / M1)) * (zof na1 M1))), .val (.cz ((zof na0 M0) - ((zof (!(na0 == na1)) (M0 / M1)) * (zof na1 M1)))), .new 2 none, .put 10 31] [] [] w.heap.size (by kernel_rfl) (by kernel_rfl) (by kernel_rfl) trivial HB ?_ ?_
  · exact ⟨fun s v h => does_val rfl rfl (x_load_z ((h.same 2 rfl).trans p1050) ((h.far q1049 b1111.lt (by simp)).trans b1111)) (f1115.mono ((Mono.drew _).trans h.mono)),
      fun s v h => does_val rfl rfl (x_load_z ((h.same 9 rfl).trans p1133) ((h.far q1132 b1142.lt (by simp)).trans b1142)) (f1148.mono ((Mono.drew _).trans h.mono)),
      fun s v h => does_val rfl rfl (x_load_z ((h.same 3 rfl).trans p1056) ((h.far q1055 b1112.lt (by simp)).trans b1112)) (f1117.mono ((Mono.drew _).trans h.mono)),
      fun s v h => does_call rfl rfl (x_call2 Try.call71) (r2mul_k ((h.dep 1 rfl).az (N := N0) (by rw [zof_abs]; exact Nat.le_trans (dl_le (Nat.div_le_self M0 M1)) hm0.len)) (h.dep 2 rfl) (by omega)),
      fun s v h => does_call rfl rfl (x_call2 Try.call70) (r2sub_k (h.dep 0 rfl) ((h.dep 3 rfl).az (N := (N0 + N1)) (len_mul (by rw [zof_abs]; exact Nat.le_trans (dl_le (Nat.div_le_self M0 M1)) hm0.len) la1)) (by omega) (by omega)),
      fun s v h => does_new rfl rfl x_alloc_z (okz _ _ _ _) rfl (.inl rfl),
      fun s v h => by obtain ⟨q, e1, e2, e3⟩ := new_at (h.dep 5 rfl); exact does_put_z rfl rfl e1 (h.dep 4 rfl).shape e3 (Nat.le_trans HB e2), trivial⟩
  intro g1149 ts v1149 hts E1149
  simp only [fillL, Nat.reduceAdd, List.setIfInBounds_toArray, List.set_cons_zero, List.set_cons_succ] at hts
  subst hts
  have T1150 : Below w.heap.size w v1149 := (below_toDrew T1106).trans E1149.below
  have l1151 : q1049 < v1105.heap.size := b1111.lt
  have l1152 : q1055 < v1105.heap.size := b1112.lt
  have l1153 : q1062 < v1105.heap.size := b1113.lt
  have l1154 : q1071 < v1105.heap.size := b1114.lt
  have l1155 : q1132 < v1105.heap.size := b1142.lt
  have b1156 : Bx v1149 q1049 24 #[.bool na0, .slice A0 n0 c0] := (E1149.far q1049 b1111.lt (by simp)).trans b1111
  have b1157 : Bx v1149 q1055 24 #[.bool na1, .slice A1 n1 c1] := (E1149.far q1055 b1112.lt (by simp)).trans b1112
  have b1158 : Bx v1149 q1062 24 #[.bool false, .slice none 0 0] := (E1149.far q1062 b1113.lt (by simp)).trans b1113
  have b1159 : Bx v1149 q1071 24 #[.bool false, .slice none 0 0] := (E1149.far q1071 b1114.lt (by simp)).trans b1114
  have b1160 : Bx v1149 q1132 t1141 #[.bool x1143, .slice A1144 m1145 c1146] := (E1149.far q1132 b1142.lt (by simp)).trans b1142
  have f1161 := f1115.mono ((Mono.drew _).trans E1149.mono)
  have f1162 := f1116.mono ((Mono.drew _).trans E1149.mono)
  have f1163 := f1117.mono ((Mono.drew _).trans E1149.mono)
  have f1164 := f1118.mono ((Mono.drew _).trans E1149.mono)
  have f1165 := f1119.mono ((Mono.drew _).trans E1149.mono)
  have f1166 := f1120.mono ((Mono.drew _).trans E1149.mono)
  have f1167 := f1121.mono ((Mono.drew _).trans E1149.mono)
  have f1168 := f1122.mono ((Mono.drew _).trans E1149.mono)
  have f1169 := f1123.mono ((Mono.drew _).trans E1149.mono)
  have f1170 := f1124.mono ((Mono.drew _).trans E1149.mono)
  have f1171 := f1125.mono ((Mono.drew _).trans E1149.mono)
  have f1172 := f1126.mono ((Mono.drew _).trans E1149.mono)
  have f1173 := f1130.mono ((Mono.drew _).trans E1149.mono)
  have f1174 := f1131.mono ((Mono.drew _).trans E1149.mono)
  have f1175 := f1148.mono ((Mono.drew _).trans E1149.mono)
  have f1176 : Az N0 v1149 (g1149 0) (zof na0 M0) := E1149.facts 0 (by decide)
  have f1177 : Cz v1149 (g1149 1) (zof (!(na0 == na1)) (M0 / M1)) := E1149.facts 1 (by decide)
  have f1178 : Az N1 v1149 (g1149 2) (zof na1 M1) := E1149.facts 2 (by decide)
  have f1179 : Cz v1149 (g1149 3) ((zof (!(na0 == na1)) (M0 / M1)) * (zof na1 M1)) := E1149.facts 3 (by decide)
  have f1180 : Cz v1149 (g1149 4) ((zof na0 M0) - ((zof (!(na0 == na1)) (M0 / M1)) * (zof na1 M1))) := E1149.facts 4 (by decide)
  obtain ⟨q1181, p1182, l1183, o1184⟩ : ∃ q, g1149 5 = .pointer (some ⟨q, 0, none⟩) ∧ v1105.heap.size ≤ q ∧ OkB v1149 q 2 := E1149.facts 5 (by decide)
  have h1185 : w.heap.size ≤ q1181 := Nat.le_trans HB l1183
  have n1186 : q1049 ≠ q1181 := by omega
  have n1187 : q1055 ≠ q1181 := by omega
  have n1188 : q1062 ≠ q1181 := by omega
  have n1189 : q1071 ≠ q1181 := by omega
  have n1190 : q1132 ≠ q1181 := by omega
  obtain ⟨t1191, x1193, A1194, m1195, c1196, e1197, b1192⟩ := put_info (E1149.facts 6 (by decide)) p1182 f1180.shape
  have f1198 : Cz v1149 (.agg #[.bool x1193, .slice A1194 m1195 c1196]) ((zof na0 M0) - ((zof (!(na0 == na1)) (M0 / M1)) * (zof na1 M1))) := f1180.at e1197.symm
  refine then_normal ?_
  refine wp_seq ?_
  refine wp_seq ?_
  have HB : w.heap.size ≤ v1149.heap.size := T1150.size
  refine wp_plan_any [.val (.cz ((zof na0 M0) - ((zof (!(na0 == na1)) (M0 / M1)) * (zof na1 M1)))), .val (.is (.int .i64 ((zof na0 M0) - ((zof (!(na0 == na1)) (M0 / M1)) * (zof na1 M1))).sign)), .val (.is (.bool true)), .val (.is (.bool true)), .val (.cz ((zof na0 M0) - ((zof (!(na0 == na1)) (M0 / M1)) * (zof na1 M1)))), .val (.is (.int .i64 ((zof na0 M0) - ((zof (!(na0 == na1)) (M0 / M1)) * (zof na1 M1))).sign)), .val (.az N1 (zof na1 M1)), .val (.is (.int .i64 (zof na1 M1).sign)), .val (.is (.bool false)), .val (.is (.bool false))] [] [] w.heap.size (by kernel_rfl) (by kernel_rfl) (by kernel_rfl) trivial HB ?_ ?_
  · exact ⟨fun s v h => does_val rfl rfl (x_load_z ((h.same 10 rfl).trans p1182) ((h.far q1181 b1192.lt (by simp)).trans b1192)) (f1198.mono ((Mono.drew _).trans h.mono)),
      fun s v h => does_call rfl rfl (x_call1 Try.call28) (r2sign_k ((h.dep 0 rfl).az (N := N0) hrr) (by omega)),
      fun s v h => does_val rfl rfl (x_neq_int (h.dep 1 rfl) rfl) (congrArg (fun x => Value.bool (!x)) d1),
      fun s v h => does_val rfl rfl (x_move) (h.dep 2 rfl),
      fun s v h => does_val rfl (wanted_by (b := true) (want := true) rfl rfl (h.dep 3 rfl)) (x_load_z ((h.same 10 rfl).trans p1182) ((h.far q1181 b1192.lt (by simp)).trans b1192)) (f1198.mono ((Mono.drew _).trans h.mono)),
      fun s v h => does_call rfl (wanted_by (b := true) (want := true) rfl rfl (h.dep 3 rfl)) (x_call1 Try.call28) (r2sign_k ((h.dep 4 rfl).az (N := N0) hrr) (by omega)),
      fun s v h => does_val rfl (wanted_by (b := true) (want := true) rfl rfl (h.dep 3 rfl)) (x_load_z ((h.same 3 rfl).trans p1056) ((h.far q1055 b1157.lt (by simp)).trans b1157)) (f1163.mono ((Mono.drew _).trans h.mono)),
      fun s v h => does_call rfl (wanted_by (b := true) (want := true) rfl rfl (h.dep 3 rfl)) (x_call1 Try.call28) (r2sign_k (h.dep 6 rfl) (by omega)),
      fun s v h => does_val rfl (wanted_by (b := true) (want := true) rfl rfl (h.dep 3 rfl)) (x_neq_int (h.dep 5 rfl) (h.dep 7 rfl)) (congrArg (fun x => Value.bool (!x)) d2),
      fun s v h => does_val rfl rfl (x_pick (h.dep 3 rfl)) (h.dep 8 rfl), trivial⟩
  intro g1199 ts v1199 hts E1199
  simp only [fillL, Nat.reduceAdd, List.setIfInBounds_toArray, List.set_cons_zero, List.set_cons_succ] at hts
  subst hts
  have T1200 : Below w.heap.size w v1199 := (below_toDrew T1150).trans E1199.below
  have l1201 : q1049 < v1149.heap.size := b1156.lt
  have l1202 : q1055 < v1149.heap.size := b1157.lt
  have l1203 : q1062 < v1149.heap.size := b1158.lt
  have l1204 : q1071 < v1149.heap.size := b1159.lt
  have l1205 : q1132 < v1149.heap.size := b1160.lt
  have l1206 : q1181 < v1149.heap.size := b1192.lt
  have b1207 : Bx v1199 q1049 24 #[.bool na0, .slice A0 n0 c0] := (E1199.far q1049 b1156.lt (by simp)).trans b1156
  have b1208 : Bx v1199 q1055 24 #[.bool na1, .slice A1 n1 c1] := (E1199.far q1055 b1157.lt (by simp)).trans b1157
  have b1209 : Bx v1199 q1062 24 #[.bool false, .slice none 0 0] := (E1199.far q1062 b1158.lt (by simp)).trans b1158
  have b1210 : Bx v1199 q1071 24 #[.bool false, .slice none 0 0] := (E1199.far q1071 b1159.lt (by simp)).trans b1159
  have b1211 : Bx v1199 q1132 t1141 #[.bool x1143, .slice A1144 m1145 c1146] := (E1199.far q1132 b1160.lt (by simp)).trans b1160
  have b1212 : Bx v1199 q1181 t1191 #[.bool x1193, .slice A1194 m1195 c1196] := (E1199.far q1181 b1192.lt (by simp)).trans b1192
  have f1213 := f1161.mono ((Mono.drew _).trans E1199.mono)
  have f1214 := f1162.mono ((Mono.drew _).trans E1199.mono)
  have f1215 := f1163.mono ((Mono.drew _).trans E1199.mono)
  have f1216 := f1164.mono ((Mono.drew _).trans E1199.mono)
  have f1217 := f1165.mono ((Mono.drew _).trans E1199.mono)
  have f1218 := f1166.mono ((Mono.drew _).trans E1199.mono)
  have f1219 := f1167.mono ((Mono.drew _).trans E1199.mono)
  have f1220 := f1168.mono ((Mono.drew _).trans E1199.mono)
  have f1221 := f1169.mono ((Mono.drew _).trans E1199.mono)
  have f1222 := f1170.mono ((Mono.drew _).trans E1199.mono)
  have f1223 := f1171.mono ((Mono.drew _).trans E1199.mono)
  have f1224 := f1172.mono ((Mono.drew _).trans E1199.mono)
  have f1225 := f1173.mono ((Mono.drew _).trans E1199.mono)
  have f1226 := f1174.mono ((Mono.drew _).trans E1199.mono)
  have f1227 := f1175.mono ((Mono.drew _).trans E1199.mono)
  have f1228 := f1176.mono ((Mono.drew _).trans E1199.mono)
  have f1229 := f1177.mono ((Mono.drew _).trans E1199.mono)
  have f1230 := f1178.mono ((Mono.drew _).trans E1199.mono)
  have f1231 := f1179.mono ((Mono.drew _).trans E1199.mono)
  have f1232 := f1180.mono ((Mono.drew _).trans E1199.mono)
  have f1233 := f1198.mono ((Mono.drew _).trans E1199.mono)
  have f1234 : Cz v1199 (g1199 0) ((zof na0 M0) - ((zof (!(na0 == na1)) (M0 / M1)) * (zof na1 M1))) := E1199.facts 0 (by decide)
  have e1235 : g1199 1 = (.int .i64 ((zof na0 M0) - ((zof (!(na0 == na1)) (M0 / M1)) * (zof na1 M1))).sign) := E1199.facts 1 (by decide)
  have e1236 : g1199 2 = (.bool true) := E1199.facts 2 (by decide)
  have e1237 : g1199 3 = (.bool true) := E1199.facts 3 (by decide)
  have f1238 : Cz v1199 (g1199 4) ((zof na0 M0) - ((zof (!(na0 == na1)) (M0 / M1)) * (zof na1 M1))) := E1199.facts 4 (by decide)
  have e1239 : g1199 5 = (.int .i64 ((zof na0 M0) - ((zof (!(na0 == na1)) (M0 / M1)) * (zof na1 M1))).sign) := E1199.facts 5 (by decide)
  have f1240 : Az N1 v1199 (g1199 6) (zof na1 M1) := E1199.facts 6 (by decide)
  have e1241 : g1199 7 = (.int .i64 (zof na1 M1).sign) := E1199.facts 7 (by decide)
  have e1242 : g1199 8 = (.bool false) := E1199.facts 8 (by decide)
  have e1243 : g1199 9 = (.bool false) := E1199.facts 9 (by decide)
  refine then_normal ?_
  refine wp_cond_false e1243 ?_
  refine wp_skip ?_
  refine then_normal ?_
  refine wp_seq ?_
  have HB : w.heap.size ≤ v1199.heap.size := T1200.size
  refine wp_plan_any [.val (.cz (zof (!(na0 == na1)) (M0 / M1))), .val (.cz ((zof na0 M0) - ((zof (!(na0 == na1)) (M0 / M1)) * (zof na1 M1)))), .put 4 48, .put 5 49] [4, 5] [q1062, q1071] w.heap.size (by kernel_rfl) (by kernel_rfl) (by kernel_rfl) ⟨p1063, b1209.lt, (nin1 n1080), ⟨p1072, b1210.lt, (by simp), trivial⟩⟩ HB ?_ ?_
  · exact ⟨fun s v h => does_val rfl rfl (x_load_z ((h.same 9 rfl).trans p1133) ((h.far q1132 b1211.lt (nin2 n1139.symm n1140.symm)).trans b1211)) (f1227.mono ((Mono.drew _).trans h.mono)),
      fun s v h => does_val rfl rfl (x_load_z ((h.same 10 rfl).trans p1182) ((h.far q1181 b1212.lt (nin2 n1188.symm n1189.symm)).trans b1212)) (f1233.mono ((Mono.drew _).trans h.mono)),
      fun s v h => does_put_z rfl rfl ((h.same 4 rfl).trans p1063) (h.dep 0 rfl).shape (((Mono.drew _).trans h.mono).ok _ _ b1209.ok2) h1068,
      fun s v h => does_put_z rfl rfl ((h.same 5 rfl).trans p1072) (h.dep 1 rfl).shape (((Mono.drew _).trans h.mono).ok _ _ b1210.ok2) h1077, trivial⟩
  intro g1244 ts v1244 hts E1244
  simp only [fillL, Nat.reduceAdd, List.setIfInBounds_toArray, List.set_cons_zero, List.set_cons_succ] at hts
  subst hts
  have T1245 : Below w.heap.size w v1244 := (below_toDrew T1200).trans E1244.below
  have l1246 : q1049 < v1199.heap.size := b1207.lt
  have l1247 : q1055 < v1199.heap.size := b1208.lt
  have l1248 : q1062 < v1199.heap.size := b1209.lt
  have l1249 : q1071 < v1199.heap.size := b1210.lt
  have l1250 : q1132 < v1199.heap.size := b1211.lt
  have l1251 : q1181 < v1199.heap.size := b1212.lt
  have b1252 : Bx v1244 q1049 24 #[.bool na0, .slice A0 n0 c0] := (E1244.far q1049 b1207.lt (nin2 n1069 n1078)).trans b1207
  have b1253 : Bx v1244 q1055 24 #[.bool na1, .slice A1 n1 c1] := (E1244.far q1055 b1208.lt (nin2 n1070 n1079)).trans b1208
  have b1254 : Bx v1244 q1132 t1141 #[.bool x1143, .slice A1144 m1145 c1146] := (E1244.far q1132 b1211.lt (nin2 n1139.symm n1140.symm)).trans b1211
  have b1255 : Bx v1244 q1181 t1191 #[.bool x1193, .slice A1194 m1195 c1196] := (E1244.far q1181 b1212.lt (nin2 n1188.symm n1189.symm)).trans b1212
  have f1256 := f1213.mono ((Mono.drew _).trans E1244.mono)
  have f1257 := f1214.mono ((Mono.drew _).trans E1244.mono)
  have f1258 := f1215.mono ((Mono.drew _).trans E1244.mono)
  have f1259 := f1216.mono ((Mono.drew _).trans E1244.mono)
  have f1260 := f1217.mono ((Mono.drew _).trans E1244.mono)
  have f1261 := f1218.mono ((Mono.drew _).trans E1244.mono)
  have f1262 := f1219.mono ((Mono.drew _).trans E1244.mono)
  have f1263 := f1220.mono ((Mono.drew _).trans E1244.mono)
  have f1264 := f1221.mono ((Mono.drew _).trans E1244.mono)
  have f1265 := f1222.mono ((Mono.drew _).trans E1244.mono)
  have f1266 := f1223.mono ((Mono.drew _).trans E1244.mono)
  have f1267 := f1224.mono ((Mono.drew _).trans E1244.mono)
  have f1268 := f1225.mono ((Mono.drew _).trans E1244.mono)
  have f1269 := f1226.mono ((Mono.drew _).trans E1244.mono)
  have f1270 := f1227.mono ((Mono.drew _).trans E1244.mono)
  have f1271 := f1228.mono ((Mono.drew _).trans E1244.mono)
  have f1272 := f1229.mono ((Mono.drew _).trans E1244.mono)
  have f1273 := f1230.mono ((Mono.drew _).trans E1244.mono)
  have f1274 := f1231.mono ((Mono.drew _).trans E1244.mono)
  have f1275 := f1232.mono ((Mono.drew _).trans E1244.mono)
  have f1276 := f1233.mono ((Mono.drew _).trans E1244.mono)
  have f1277 := f1234.mono ((Mono.drew _).trans E1244.mono)
  have f1278 := f1238.mono ((Mono.drew _).trans E1244.mono)
  have f1279 := f1240.mono ((Mono.drew _).trans E1244.mono)
  have f1280 : Cz v1244 (g1244 0) (zof (!(na0 == na1)) (M0 / M1)) := E1244.facts 0 (by decide)
  have f1281 : Cz v1244 (g1244 1) ((zof na0 M0) - ((zof (!(na0 == na1)) (M0 / M1)) * (zof na1 M1))) := E1244.facts 1 (by decide)
  obtain ⟨t1282, x1284, A1285, m1286, c1287, e1288, b1283⟩ := put_info (E1244.facts 2 (by decide)) p1063 f1280.shape
  have f1289 : Cz v1244 (.agg #[.bool x1284, .slice A1285 m1286 c1287]) (zof (!(na0 == na1)) (M0 / M1)) := f1280.at e1288.symm
  obtain ⟨t1290, x1292, A1293, m1294, c1295, e1296, b1291⟩ := put_info (E1244.facts 3 (by decide)) p1072 f1281.shape
  have f1297 : Cz v1244 (.agg #[.bool x1292, .slice A1293 m1294 c1295]) ((zof na0 M0) - ((zof (!(na0 == na1)) (M0 / M1)) * (zof na1 M1))) := f1281.at e1296.symm
  refine then_normal ?_
  refine wp_ret ?_
  exact bodyPost_ret (ret_cc rfl p1063 b1283 p1072 b1291) rfl ⟨_, rfl, ⟨_, _, rfl, f1289, f1297⟩, T1245⟩

set_option maxRecDepth 8000 in
theorem r2floor_c {w : World} {na0 : Bool} {A0 : Option Addr} {n0 c0 M0 N0 : Nat} (hm0 : Nz N0 w (.slice A0 n0 c0) M0) {na1 : Bool} {A1 : Option Addr} {n1 c1 M1 N1 : Nat} (hm1 : Nz N1 w (.slice A1 n1 c1) M1) (hN0 : N0 ≤ 17592186044000) (hN1 : N1 ≤ 17592186044000) (hb : 0 < M1) (hrr : (digs ((zof na0 M0) - ((zof (!(na0 == na1)) (M0 / M1)) * (zof na1 M1))).natAbs).length ≤ N0) (d1 : (((zof na0 M0) - ((zof (!(na0 == na1)) (M0 / M1)) * (zof na1 M1))).sign == 0) = false) (d2 : (((zof na0 M0) - ((zof (!(na0 == na1)) (M0 / M1)) * (zof na1 M1))).sign == (zof na1 M1).sign) = false)  : Calls Try.prog 29 #[.agg #[.bool na0, .slice A0 n0 c0], .agg #[.bool na1, .slice A1 n1 c1]] w (Ret (.tup2 (.cz ((zof (!(na0 == na1)) (M0 / M1)) - 1)) (.cz (((zof na0 M0) - ((zof (!(na0 == na1)) (M0 / M1)) * (zof na1 M1))) + (zof na1 M1)))) w) := by
  have ha0 : Az N0 w (.agg #[.bool na0, .slice A0 n0 c0]) (zof na0 M0) := Az.of_nz hm0
  have la0 := ha0.len
  have ha1 : Az N1 w (.agg #[.bool na1, .slice A1 n1 c1]) (zof na1 M1) := Az.of_nz hm1
  have la1 := ha1.len
  have T0 : Below w.heap.size w w := Below.refl _ _
  go_enter Try.func29, Try.ntmps29
  refine wp_seq ?_
  have HB : w.heap.size ≤ w.heap.size := T0.size
  refine wp_plan_seq [.new 2 (some (24, #[.bool na0, .slice A0 n0 c0])), .new 2 (some (24, #[.bool na1, .slice A1 n1 c1])), .new 2 (some (24, #[.bool false, .slice none 0 0])), .new 2 (some (24, #[.bool false, .slice none 0 0]))] [] [] w.heap.size (by kernel_rfl) (by kernel_rfl) trivial HB ?_ ?_
  · exact ⟨fun s v h => does_new rfl rfl (x_box_z (h.same 0 rfl)) (okz _ _ _ _) rfl (.inr rfl),
      fun s v h => does_new rfl rfl (x_box_z (h.same 1 rfl)) (okz _ _ _ _) rfl (.inr rfl),
      fun s v h => does_new rfl rfl x_alloc_z (okz _ _ _ _) rfl (.inr rfl),
      fun s v h => does_new rfl rfl x_alloc_z (okz _ _ _ _) rfl (.inr rfl), trivial⟩
  intro g1298 ts v1298 hts E1298
  simp only [fillL, Nat.reduceAdd, List.setIfInBounds_toArray, List.set_cons_zero, List.set_cons_succ] at hts
  subst hts
  have T1299 : Below w.heap.size w v1298 := T0.trans E1298.below
  have f1300 := ha0.mono E1298.mono
  have f1301 := hm0.mono E1298.mono
  have f1302 := ha1.mono E1298.mono
  have f1303 := hm1.mono E1298.mono
  obtain ⟨q1304, p1305, l1306, o1307, b1308⟩ : ∃ q, g1298 0 = .pointer (some ⟨q, 0, none⟩) ∧ w.heap.size ≤ q ∧ OkB v1298 q 2 ∧ Bx v1298 q 24 #[.bool na0, .slice A0 n0 c0] := E1298.facts 0 (by decide)
  have h1309 : w.heap.size ≤ q1304 := Nat.le_trans HB l1306
  obtain ⟨q1310, p1311, l1312, o1313, b1314⟩ : ∃ q, g1298 1 = .pointer (some ⟨q, 0, none⟩) ∧ w.heap.size ≤ q ∧ OkB v1298 q 2 ∧ Bx v1298 q 24 #[.bool na1, .slice A1 n1 c1] := E1298.facts 1 (by decide)
  have h1315 : w.heap.size ≤ q1310 := Nat.le_trans HB l1312
  have n1316 : q1304 ≠ q1310 := apart_ne (E1298.apart 0 1 (by decide) (by decide) (by decide) ⟨_, _, rfl⟩ ⟨_, _, rfl⟩) p1305 p1311
  obtain ⟨q1317, p1318, l1319, o1320, b1321⟩ : ∃ q, g1298 2 = .pointer (some ⟨q, 0, none⟩) ∧ w.heap.size ≤ q ∧ OkB v1298 q 2 ∧ Bx v1298 q 24 #[.bool false, .slice none 0 0] := E1298.facts 2 (by decide)
  have f1322 : Cz v1298 (.agg #[.bool false, .slice none 0 0]) 0 := cz_zero _
  have h1323 : w.heap.size ≤ q1317 := Nat.le_trans HB l1319
  have n1324 : q1304 ≠ q1317 := apart_ne (E1298.apart 0 2 (by decide) (by decide) (by decide) ⟨_, _, rfl⟩ ⟨_, _, rfl⟩) p1305 p1318
  have n1325 : q1310 ≠ q1317 := apart_ne (E1298.apart 1 2 (by decide) (by decide) (by decide) ⟨_, _, rfl⟩ ⟨_, _, rfl⟩) p1311 p1318
  obtain ⟨q1326, p1327, l1328, o1329, b1330⟩ : ∃ q, g1298 3 = .pointer (some ⟨q, 0, none⟩) ∧ w.heap.size ≤ q ∧ OkB v1298 q 2 ∧ Bx v1298 q 24 #[.bool false, .slice none 0 0] := E1298.facts 3 (by decide)
  have f1331 : Cz v1298 (.agg #[.bool false, .slice none 0 0]) 0 := cz_zero _
  have h1332 : w.heap.size ≤ q1326 := Nat.le_trans HB l1328
  have n1333 : q1304 ≠ q1326 := apart_ne (E1298.apart 0 3 (by decide) (by decide) (by decide) ⟨_, _, rfl⟩ ⟨_, _, rfl⟩) p1305 p1327
  have n1334 : q1310 ≠ q1326 := apart_ne (E1298.apart 1 3 (by decide) (by decide) (by decide) ⟨_, _, rfl⟩ ⟨_, _, rfl⟩) p1311 p1327
  have n1335 : q1317 ≠ q1326 := apart_ne (E1298.apart 2 3 (by decide) (by decide) (by decide) ⟨_, _, rfl⟩ ⟨_, _, rfl⟩) p1318 p1327
  refine then_normal ?_
  refine wp_seq ?_
  have HB : w.heap.size ≤ v1298.heap.size := T1299.size
  refine wp_plan_seq [.val (.is (.pointer (some ⟨q1304, 1, none⟩))), .val (.nz N0 M0), .val (.is (.pointer (some ⟨q1310, 1, none⟩))), .val (.nz N1 M1), .val (.tup3 (.nz N0 (M0 / M1)) (.nz N0 (M0 % M1)) (.is (.int .i64 0))), .val (.tup3 (.nz N0 (M0 / M1)) (.nz N0 (M0 % M1)) (.is (.int .i64 0))), .val (.nz N0 (M0 / M1)), .val (.nz N0 (M0 % M1)), .val (.is (.int .i64 0)), .val (.nz N0 (M0 / M1)), .val (.nz N0 (M0 % M1)), .val (.is (.int .i64 0))] [] [] w.heap.size (by kernel_rfl) (by kernel_rfl) trivial HB ?_ ?_
  · exact ⟨fun s v h => does_val rfl rfl (x_fld (by decide) ((h.same 2 rfl).trans p1305)) rfl,
      fun s v h => does_val rfl rfl (x_load_s (h.dep 0 rfl) ((h.far q1304 b1308.lt (by simp)).trans b1308)) (f1301.mono h.mono),
      fun s v h => does_val rfl rfl (x_fld (by decide) ((h.same 3 rfl).trans p1311)) rfl,
      fun s v h => does_val rfl rfl (x_load_s (h.dep 2 rfl) ((h.far q1310 b1314.lt (by simp)).trans b1314)) (f1303.mono h.mono),
      fun s v h => does_call rfl rfl (x_call2 Try.call69) (rdiv_k (h.dep 1 rfl) (h.dep 3 rfl) (by omega) (by omega) (by omega)),
      fun s v h => does_val rfl rfl (x_move) (h.dep 4 rfl),
      fun s v h => by obtain ⟨r0, r1, r2, e, f0, f1, f2⟩ := tup3_at (h.dep 5 rfl); exact does_val rfl rfl (x_ext e rfl) f0,
      fun s v h => by obtain ⟨r0, r1, r2, e, f0, f1, f2⟩ := tup3_at (h.dep 5 rfl); exact does_val rfl rfl (x_ext e rfl) f1,
      fun s v h => by obtain ⟨r0, r1, r2, e, f0, f1, f2⟩ := tup3_at (h.dep 5 rfl); exact does_val rfl rfl (x_ext e rfl) f2,
      fun s v h => does_val rfl rfl (x_assign) (h.dep 6 rfl),
      fun s v h => does_val rfl rfl (x_assign) (h.dep 7 rfl),
      fun s v h => does_val rfl rfl (x_assign) (h.dep 8 rfl), trivial⟩
  intro g1336 ts v1336 hts E1336
  simp only [fillL, Nat.reduceAdd, List.setIfInBounds_toArray, List.set_cons_zero, List.set_cons_succ] at hts
  subst hts
  have T1337 : Below w.heap.size w v1336 := T1299.trans E1336.below
  have l1338 : q1304 < v1298.heap.size := b1308.lt
  have l1339 : q1310 < v1298.heap.size := b1314.lt
  have l1340 : q1317 < v1298.heap.size := b1321.lt
  have l1341 : q1326 < v1298.heap.size := b1330.lt
  have b1342 : Bx v1336 q1304 24 #[.bool na0, .slice A0 n0 c0] := (E1336.far q1304 b1308.lt (by simp)).trans b1308
  have b1343 : Bx v1336 q1310 24 #[.bool na1, .slice A1 n1 c1] := (E1336.far q1310 b1314.lt (by simp)).trans b1314
  have b1344 : Bx v1336 q1317 24 #[.bool false, .slice none 0 0] := (E1336.far q1317 b1321.lt (by simp)).trans b1321
  have b1345 : Bx v1336 q1326 24 #[.bool false, .slice none 0 0] := (E1336.far q1326 b1330.lt (by simp)).trans b1330
  have f1346 := f1300.mono E1336.mono
  have f1347 := f1301.mono E1336.mono
  have f1348 := f1302.mono E1336.mono
  have f1349 := f1303.mono E1336.mono
  have f1350 := f1322.mono E1336.mono
  have f1351 := f1331.mono E1336.mono
  have f1352 : Nz N0 v1336 (g1336 1) M0 := E1336.facts 1 (by decide)
  have f1353 : Nz N1 v1336 (g1336 3) M1 := E1336.facts 3 (by decide)
  have f1354 : Nz N0 v1336 (g1336 6) (M0 / M1) := E1336.facts 6 (by decide)
  have f1355 : Nz N0 v1336 (g1336 7) (M0 % M1) := E1336.facts 7 (by decide)
  have e1356 : g1336 8 = (.int .i64 0) := E1336.facts 8 (by decide)
  have f1357 : Nz N0 v1336 (g1336 9) (M0 / M1) := E1336.facts 9 (by decide)
  have f1358 : Nz N0 v1336 (g1336 10) (M0 % M1) := E1336.facts 10 (by decide)
  have e1359 : g1336 11 = (.int .i64 0) := E1336.facts 11 (by decide)
  refine then_normal ?_
  refine wp_seq ?_
  have HB : w.heap.size ≤ v1336.heap.size := T1337.size
  refine wp_plan_seq [.val (.is (.pointer (some ⟨q1304, 0, none⟩))), .val (.is (.bool na0)), .val (.is (.pointer (some ⟨q1310, 0, none⟩))), .val (.is (.bool na1)), .val (.is (.bool (!(na0 == na1)))), .val (.nz N0 (M0 / M1)), .val (.cz (zof (!(na0 == na1)) (M0 / M1))), .new 2 none, .put 9 26] [] [] w.heap.size (by kernel_rfl) (by kernel_rfl) trivial HB ?_ ?_
  · exact ⟨fun s v h => does_val rfl rfl (x_fld (by decide) ((h.same 2 rfl).trans p1305)) rfl,
      fun s v h => does_val rfl rfl (x_load_b (h.dep 0 rfl) ((h.far q1304 b1342.lt (by simp)).trans b1342)) rfl,
      fun s v h => does_val rfl rfl (x_fld (by decide) ((h.same 3 rfl).trans p1311)) rfl,
      fun s v h => does_val rfl rfl (x_load_b (h.dep 2 rfl) ((h.far q1310 b1343.lt (by simp)).trans b1343)) rfl,
      fun s v h => does_val rfl rfl (x_neq_bool (h.dep 1 rfl) (h.dep 3 rfl)) rfl,
      fun s v h => does_val rfl rfl (x_move) ((f1357.mono h.mono).at (h.same 6 rfl)),
      fun s v h => does_call rfl rfl (x_call2 Try.call59) (rmade_k (h.dep 4 rfl) (h.dep 5 rfl) (by omega)),
      fun s v h => does_new rfl rfl x_alloc_z (okz _ _ _ _) rfl (.inl rfl),
      fun s v h => by obtain ⟨q, e1, e2, e3⟩ := new_at (h.dep 7 rfl); exact does_put_z rfl rfl e1 (h.dep 6 rfl).shape e3 (Nat.le_trans HB e2), trivial⟩
  intro g1360 ts v1360 hts E1360
  simp only [fillL, Nat.reduceAdd, List.setIfInBounds_toArray, List.set_cons_zero, List.set_cons_succ] at hts
  subst hts
  have T1361 : Below w.heap.size w v1360 := T1337.trans E1360.below
  have l1362 : q1304 < v1336.heap.size := b1342.lt
  have l1363 : q1310 < v1336.heap.size := b1343.lt
  have l1364 : q1317 < v1336.heap.size := b1344.lt
  have l1365 : q1326 < v1336.heap.size := b1345.lt
  have b1366 : Bx v1360 q1304 24 #[.bool na0, .slice A0 n0 c0] := (E1360.far q1304 b1342.lt (by simp)).trans b1342
  have b1367 : Bx v1360 q1310 24 #[.bool na1, .slice A1 n1 c1] := (E1360.far q1310 b1343.lt (by simp)).trans b1343
  have b1368 : Bx v1360 q1317 24 #[.bool false, .slice none 0 0] := (E1360.far q1317 b1344.lt (by simp)).trans b1344
  have b1369 : Bx v1360 q1326 24 #[.bool false, .slice none 0 0] := (E1360.far q1326 b1345.lt (by simp)).trans b1345
  have f1370 := f1346.mono E1360.mono
  have f1371 := f1347.mono E1360.mono
  have f1372 := f1348.mono E1360.mono
  have f1373 := f1349.mono E1360.mono
  have f1374 := f1350.mono E1360.mono
  have f1375 := f1351.mono E1360.mono
  have f1376 := f1352.mono E1360.mono
  have f1377 := f1353.mono E1360.mono
  have f1378 := f1354.mono E1360.mono
  have f1379 := f1355.mono E1360.mono
  have f1380 := f1357.mono E1360.mono
  have f1381 := f1358.mono E1360.mono
  have e1382 : g1360 1 = (.bool na0) := E1360.facts 1 (by decide)
  have e1383 : g1360 3 = (.bool na1) := E1360.facts 3 (by decide)
  have e1384 : g1360 4 = (.bool (!(na0 == na1))) := E1360.facts 4 (by decide)
  have f1385 : Nz N0 v1360 (g1360 5) (M0 / M1) := E1360.facts 5 (by decide)
  have f1386 : Cz v1360 (g1360 6) (zof (!(na0 == na1)) (M0 / M1)) := E1360.facts 6 (by decide)
  obtain ⟨q1387, p1388, l1389, o1390⟩ : ∃ q, g1360 7 = .pointer (some ⟨q, 0, none⟩) ∧ v1336.heap.size ≤ q ∧ OkB v1360 q 2 := E1360.facts 7 (by decide)
  have h1391 : w.heap.size ≤ q1387 := Nat.le_trans HB l1389
  have n1392 : q1304 ≠ q1387 := by omega
  have n1393 : q1310 ≠ q1387 := by omega
  have n1394 : q1317 ≠ q1387 := by omega
  have n1395 : q1326 ≠ q1387 := by omega
  obtain ⟨t1396, x1398, A1399, m1400, c1401, e1402, b1397⟩ := put_info (E1360.facts 8 (by decide)) p1388 f1386.shape
  have f1403 : Cz v1360 (.agg #[.bool x1398, .slice A1399 m1400 c1401]) (zof (!(na0 == na1)) (M0 / M1)) := f1386.at e1402.symm
  refine then_normal ?_
  refine wp_seq ?_
  have HB : w.heap.size ≤ v1360.heap.size := T1361.size
  refine wp_plan_any [.val (.az N0 (zof na0 M0)), .val (.cz (zof (!(na0 == na1)) (M0 / M1))), .val (.az N1 (zof na1 M1)), .val (.cz ((zof (!(na0 == na1)) (M0 / M1)) * (zof na1 M1))), .val (.cz ((zof na0 M0) - ((zof (!(na0 == na1)) (M0 / M1)) * (zof na1 M1)))), .new 2 none, .put 10 31] [] [] w.heap.size (by kernel_rfl) (by kernel_rfl) (by kernel_rfl) trivial HB ?_ ?_
  · exact ⟨fun s v h => does_val rfl rfl (x_load_z ((h.same 2 rfl).trans p1305) ((h.far q1304 b1366.lt (by simp)).trans b1366)) (f1370.mono ((Mono.drew _).trans h.mono)),
      fun s v h => does_val rfl rfl (x_load_z ((h.same 9 rfl).trans p1388) ((h.far q1387 b1397.lt (by simp)).trans b1397)) (f1403.mono ((Mono.drew _).trans h.mono)),
      fun s v h => does_val rfl rfl (x_load_z ((h.same 3 rfl).trans p1311) ((h.far q1310 b1367.lt (by simp)).trans b1367)) (f1372.mono ((Mono.drew _).trans h.mono)),
      fun s v h => does_call rfl rfl (x_call2 Try.call71) (r2mul_k ((h.dep 1 rfl).az (N := N0) (by rw [zof_abs]; exact Nat.le_trans (dl_le (Nat.div_le_self M0 M1)) hm0.len)) (h.dep 2 rfl) (by omega)),
      fun s v h => does_call rfl rfl (x_call2 Try.call70) (r2sub_k (h.dep 0 rfl) ((h.dep 3 rfl).az (N := (N0 + N1)) (len_mul (by rw [zof_abs]; exact Nat.le_trans (dl_le (Nat.div_le_self M0 M1)) hm0.len) la1)) (by omega) (by omega)),
      fun s v h => does_new rfl rfl x_alloc_z (okz _ _ _ _) rfl (.inl rfl),
      fun s v h => by obtain ⟨q, e1, e2, e3⟩ := new_at (h.dep 5 rfl); exact does_put_z rfl rfl e1 (h.dep 4 rfl).shape e3 (Nat.le_trans HB e2), trivial⟩
  intro g1404 ts v1404 hts E1404
  simp only [fillL, Nat.reduceAdd, List.setIfInBounds_toArray, List.set_cons_zero, List.set_cons_succ] at hts
  subst hts
  have T1405 : Below w.heap.size w v1404 := (below_toDrew T1361).trans E1404.below
  have l1406 : q1304 < v1360.heap.size := b1366.lt
  have l1407 : q1310 < v1360.heap.size := b1367.lt
  have l1408 : q1317 < v1360.heap.size := b1368.lt
  have l1409 : q1326 < v1360.heap.size := b1369.lt
  have l1410 : q1387 < v1360.heap.size := b1397.lt
  have b1411 : Bx v1404 q1304 24 #[.bool na0, .slice A0 n0 c0] := (E1404.far q1304 b1366.lt (by simp)).trans b1366
  have b1412 : Bx v1404 q1310 24 #[.bool na1, .slice A1 n1 c1] := (E1404.far q1310 b1367.lt (by simp)).trans b1367
  have b1413 : Bx v1404 q1317 24 #[.bool false, .slice none 0 0] := (E1404.far q1317 b1368.lt (by simp)).trans b1368
  have b1414 : Bx v1404 q1326 24 #[.bool false, .slice none 0 0] := (E1404.far q1326 b1369.lt (by simp)).trans b1369
  have b1415 : Bx v1404 q1387 t1396 #[.bool x1398, .slice A1399 m1400 c1401] := (E1404.far q1387 b1397.lt (by simp)).trans b1397
  have f1416 := f1370.mono ((Mono.drew _).trans E1404.mono)
  have f1417 := f1371.mono ((Mono.drew _).trans E1404.mono)
  have f1418 := f1372.mono ((Mono.drew _).trans E1404.mono)
  have f1419 := f1373.mono ((Mono.drew _).trans E1404.mono)
  have f1420 := f1374.mono ((Mono.drew _).trans E1404.mono)
  have f1421 := f1375.mono ((Mono.drew _).trans E1404.mono)
  have f1422 := f1376.mono ((Mono.drew _).trans E1404.mono)
  have f1423 := f1377.mono ((Mono.drew _).trans E1404.mono)
  have f1424 := f1378.mono ((Mono.drew _).trans E1404.mono)
  have f1425 := f1379.mono ((Mono.drew _).trans E1404.mono)
  have f1426 := f1380.mono ((Mono.drew _).trans E1404.mono)
  have f1427 := f1381.mono ((Mono.drew _).trans E1404.mono)
  have f1428 := f1385.mono ((Mono.drew _).trans E1404.mono)
  have f1429 := f1386.mono ((Mono.drew _).trans E1404.mono)
  have f1430 := f1403.mono ((Mono.drew _).trans E1404.mono)
  have f1431 : Az N0 v1404 (g1404 0) (zof na0 M0) := E1404.facts 0 (by decide)
  have f1432 : Cz v1404 (g1404 1) (zof (!(na0 == na1)) (M0 / M1)) := E1404.facts 1 (by decide)
  have f1433 : Az N1 v1404 (g1404 2) (zof na1 M1) := E1404.facts 2 (by decide)
  have f1434 : Cz v1404 (g1404 3) ((zof (!(na0 == na1)) (M0 / M1)) * (zof na1 M1)) := E1404.facts 3 (by decide)
  have f1435 : Cz v1404 (g1404 4) ((zof na0 M0) - ((zof (!(na0 == na1)) (M0 / M1)) * (zof na1 M1))) := E1404.facts 4 (by decide)
  obtain ⟨q1436, p1437, l1438, o1439⟩ : ∃ q, g1404 5 = .pointer (some ⟨q, 0, none⟩) ∧ v1360.heap.size ≤ q ∧ OkB v1404 q 2 := E1404.facts 5 (by decide)
  have h1440 : w.heap.size ≤ q1436 := Nat.le_trans HB l1438
  have n1441 : q1304 ≠ q1436 := by omega
  have n1442 : q1310 ≠ q1436 := by omega
  have n1443 : q1317 ≠ q1436 := by omega
  have n1444 : q1326 ≠ q1436 := by omega
  have n1445 : q1387 ≠ q1436 := by omega
  obtain ⟨t1446, x1448, A1449, m1450, c1451, e1452, b1447⟩ := put_info (E1404.facts 6 (by decide)) p1437 f1435.shape
  have f1453 : Cz v1404 (.agg #[.bool x1448, .slice A1449 m1450 c1451]) ((zof na0 M0) - ((zof (!(na0 == na1)) (M0 / M1)) * (zof na1 M1))) := f1435.at e1452.symm
  refine then_normal ?_
  refine wp_seq ?_
  refine wp_seq ?_
  have HB : w.heap.size ≤ v1404.heap.size := T1405.size
  refine wp_plan_any [.val (.cz ((zof na0 M0) - ((zof (!(na0 == na1)) (M0 / M1)) * (zof na1 M1)))), .val (.is (.int .i64 ((zof na0 M0) - ((zof (!(na0 == na1)) (M0 / M1)) * (zof na1 M1))).sign)), .val (.is (.bool true)), .val (.is (.bool true)), .val (.cz ((zof na0 M0) - ((zof (!(na0 == na1)) (M0 / M1)) * (zof na1 M1)))), .val (.is (.int .i64 ((zof na0 M0) - ((zof (!(na0 == na1)) (M0 / M1)) * (zof na1 M1))).sign)), .val (.az N1 (zof na1 M1)), .val (.is (.int .i64 (zof na1 M1).sign)), .val (.is (.bool true)), .val (.is (.bool true))] [] [] w.heap.size (by kernel_rfl) (by kernel_rfl) (by kernel_rfl) trivial HB ?_ ?_
  · exact ⟨fun s v h => does_val rfl rfl (x_load_z ((h.same 10 rfl).trans p1437) ((h.far q1436 b1447.lt (by simp)).trans b1447)) (f1453.mono ((Mono.drew _).trans h.mono)),
      fun s v h => does_call rfl rfl (x_call1 Try.call28) (r2sign_k ((h.dep 0 rfl).az (N := N0) hrr) (by omega)),
      fun s v h => does_val rfl rfl (x_neq_int (h.dep 1 rfl) rfl) (congrArg (fun x => Value.bool (!x)) d1),
      fun s v h => does_val rfl rfl (x_move) (h.dep 2 rfl),
      fun s v h => does_val rfl (wanted_by (b := true) (want := true) rfl rfl (h.dep 3 rfl)) (x_load_z ((h.same 10 rfl).trans p1437) ((h.far q1436 b1447.lt (by simp)).trans b1447)) (f1453.mono ((Mono.drew _).trans h.mono)),
      fun s v h => does_call rfl (wanted_by (b := true) (want := true) rfl rfl (h.dep 3 rfl)) (x_call1 Try.call28) (r2sign_k ((h.dep 4 rfl).az (N := N0) hrr) (by omega)),
      fun s v h => does_val rfl (wanted_by (b := true) (want := true) rfl rfl (h.dep 3 rfl)) (x_load_z ((h.same 3 rfl).trans p1311) ((h.far q1310 b1412.lt (by simp)).trans b1412)) (f1418.mono ((Mono.drew _).trans h.mono)),
      fun s v h => does_call rfl (wanted_by (b := true) (want := true) rfl rfl (h.dep 3 rfl)) (x_call1 Try.call28) (r2sign_k (h.dep 6 rfl) (by omega)),
      fun s v h => does_val rfl (wanted_by (b := true) (want := true) rfl rfl (h.dep 3 rfl)) (x_neq_int (h.dep 5 rfl) (h.dep 7 rfl)) (congrArg (fun x => Value.bool (!x)) d2),
      fun s v h => does_val rfl rfl (x_pick (h.dep 3 rfl)) (h.dep 8 rfl), trivial⟩
  intro g1454 ts v1454 hts E1454
  simp only [fillL, Nat.reduceAdd, List.setIfInBounds_toArray, List.set_cons_zero, List.set_cons_succ] at hts
  subst hts
  have T1455 : Below w.heap.size w v1454 := (below_toDrew T1405).trans E1454.below
  have l1456 : q1304 < v1404.heap.size := b1411.lt
  have l1457 : q1310 < v1404.heap.size := b1412.lt
  have l1458 : q1317 < v1404.heap.size := b1413.lt
  have l1459 : q1326 < v1404.heap.size := b1414.lt
  have l1460 : q1387 < v1404.heap.size := b1415.lt
  have l1461 : q1436 < v1404.heap.size := b1447.lt
  have b1462 : Bx v1454 q1304 24 #[.bool na0, .slice A0 n0 c0] := (E1454.far q1304 b1411.lt (by simp)).trans b1411
  have b1463 : Bx v1454 q1310 24 #[.bool na1, .slice A1 n1 c1] := (E1454.far q1310 b1412.lt (by simp)).trans b1412
  have b1464 : Bx v1454 q1317 24 #[.bool false, .slice none 0 0] := (E1454.far q1317 b1413.lt (by simp)).trans b1413
  have b1465 : Bx v1454 q1326 24 #[.bool false, .slice none 0 0] := (E1454.far q1326 b1414.lt (by simp)).trans b1414
  have b1466 : Bx v1454 q1387 t1396 #[.bool x1398, .slice A1399 m1400 c1401] := (E1454.far q1387 b1415.lt (by simp)).trans b1415
  have b1467 : Bx v1454 q1436 t1446 #[.bool x1448, .slice A1449 m1450 c1451] := (E1454.far q1436 b1447.lt (by simp)).trans b1447
  have f1468 := f1416.mono ((Mono.drew _).trans E1454.mono)
  have f1469 := f1417.mono ((Mono.drew _).trans E1454.mono)
  have f1470 := f1418.mono ((Mono.drew _).trans E1454.mono)
  have f1471 := f1419.mono ((Mono.drew _).trans E1454.mono)
  have f1472 := f1420.mono ((Mono.drew _).trans E1454.mono)
  have f1473 := f1421.mono ((Mono.drew _).trans E1454.mono)
  have f1474 := f1422.mono ((Mono.drew _).trans E1454.mono)
  have f1475 := f1423.mono ((Mono.drew _).trans E1454.mono)
  have f1476 := f1424.mono ((Mono.drew _).trans E1454.mono)
  have f1477 := f1425.mono ((Mono.drew _).trans E1454.mono)
  have f1478 := f1426.mono ((Mono.drew _).trans E1454.mono)
  have f1479 := f1427.mono ((Mono.drew _).trans E1454.mono)
  have f1480 := f1428.mono ((Mono.drew _).trans E1454.mono)
  have f1481 := f1429.mono ((Mono.drew _).trans E1454.mono)
  have f1482 := f1430.mono ((Mono.drew _).trans E1454.mono)
  have f1483 := f1431.mono ((Mono.drew _).trans E1454.mono)
  have f1484 := f1432.mono ((Mono.drew _).trans E1454.mono)
  have f1485 := f1433.mono ((Mono.drew _).trans E1454.mono)
  have f1486 := f1434.mono ((Mono.drew _).trans E1454.mono)
  have f1487 := f1435.mono ((Mono.drew _).trans E1454.mono)
  have f1488 := f1453.mono ((Mono.drew _).trans E1454.mono)
  have f1489 : Cz v1454 (g1454 0) ((zof na0 M0) - ((zof (!(na0 == na1)) (M0 / M1)) * (zof na1 M1))) := E1454.facts 0 (by decide)
  have e1490 : g1454 1 = (.int .i64 ((zof na0 M0) - ((zof (!(na0 == na1)) (M0 / M1)) * (zof na1 M1))).sign) := E1454.facts 1 (by decide)
  have e1491 : g1454 2 = (.bool true) := E1454.facts 2 (by decide)
  have e1492 : g1454 3 = (.bool true) := E1454.facts 3 (by decide)
  have f1493 : Cz v1454 (g1454 4) ((zof na0 M0) - ((zof (!(na0 == na1)) (M0 / M1)) * (zof na1 M1))) := E1454.facts 4 (by decide)
  have e1494 : g1454 5 = (.int .i64 ((zof na0 M0) - ((zof (!(na0 == na1)) (M0 / M1)) * (zof na1 M1))).sign) := E1454.facts 5 (by decide)
  have f1495 : Az N1 v1454 (g1454 6) (zof na1 M1) := E1454.facts 6 (by decide)
  have e1496 : g1454 7 = (.int .i64 (zof na1 M1).sign) := E1454.facts 7 (by decide)
  have e1497 : g1454 8 = (.bool true) := E1454.facts 8 (by decide)
  have e1498 : g1454 9 = (.bool true) := E1454.facts 9 (by decide)
  refine then_normal ?_
  refine wp_cond_true e1498 ?_
  refine wp_seq ?_
  have HB : w.heap.size ≤ v1454.heap.size := T1455.size
  refine wp_plan_any [.val (.cz (zof (!(na0 == na1)) (M0 / M1))), .val (.cz 1), .val (.cz ((zof (!(na0 == na1)) (M0 / M1)) - 1)), .put 9 44] [9] [q1387] w.heap.size (by kernel_rfl) (by kernel_rfl) (by kernel_rfl) ⟨p1388, b1466.lt, (by simp), trivial⟩ HB ?_ ?_
  · exact ⟨fun s v h => does_val rfl rfl (x_load_z ((h.same 9 rfl).trans p1388) ((h.held 3 9 44 _ rfl rfl rfl p1388).trans b1466)) (f1482.mono ((Mono.drew _).trans h.mono)),
      fun s v h => does_call rfl rfl (x_call1 Try.call72) (r2of_k rfl (by decide) (by decide)),
      fun s v h => does_call rfl rfl (x_call2 Try.call70) (r2sub_k ((h.dep 0 rfl).az (N := N0) (by rw [zof_abs]; exact Nat.le_trans (dl_le (Nat.div_le_self M0 M1)) hm0.len)) ((h.dep 1 rfl).az (N := 1) (show (digs (Int.natAbs 1)).length ≤ 1 from digs_len_le (by decide))) (by omega) (by omega)),
      fun s v h => does_put_z rfl rfl ((h.same 9 rfl).trans p1388) (h.dep 2 rfl).shape (((Mono.drew _).trans h.mono).ok _ _ b1466.ok2) h1391, trivial⟩
  intro g1499 ts v1499 hts E1499
  simp only [fillL, Nat.reduceAdd, List.setIfInBounds_toArray, List.set_cons_zero, List.set_cons_succ] at hts
  subst hts
  have T1500 : Below w.heap.size w v1499 := (below_toDrew T1455).trans E1499.below
  have l1501 : q1304 < v1454.heap.size := b1462.lt
  have l1502 : q1310 < v1454.heap.size := b1463.lt
  have l1503 : q1317 < v1454.heap.size := b1464.lt
  have l1504 : q1326 < v1454.heap.size := b1465.lt
  have l1505 : q1387 < v1454.heap.size := b1466.lt
  have l1506 : q1436 < v1454.heap.size := b1467.lt
  have b1507 : Bx v1499 q1304 24 #[.bool na0, .slice A0 n0 c0] := (E1499.far q1304 b1462.lt (nin1 n1392)).trans b1462
  have b1508 : Bx v1499 q1310 24 #[.bool na1, .slice A1 n1 c1] := (E1499.far q1310 b1463.lt (nin1 n1393)).trans b1463
  have b1509 : Bx v1499 q1317 24 #[.bool false, .slice none 0 0] := (E1499.far q1317 b1464.lt (nin1 n1394)).trans b1464
  have b1510 : Bx v1499 q1326 24 #[.bool false, .slice none 0 0] := (E1499.far q1326 b1465.lt (nin1 n1395)).trans b1465
  have b1511 : Bx v1499 q1436 t1446 #[.bool x1448, .slice A1449 m1450 c1451] := (E1499.far q1436 b1467.lt (nin1 n1445.symm)).trans b1467
  have f1512 := f1468.mono ((Mono.drew _).trans E1499.mono)
  have f1513 := f1469.mono ((Mono.drew _).trans E1499.mono)
  have f1514 := f1470.mono ((Mono.drew _).trans E1499.mono)
  have f1515 := f1471.mono ((Mono.drew _).trans E1499.mono)
  have f1516 := f1472.mono ((Mono.drew _).trans E1499.mono)
  have f1517 := f1473.mono ((Mono.drew _).trans E1499.mono)
  have f1518 := f1474.mono ((Mono.drew _).trans E1499.mono)
  have f1519 := f1475.mono ((Mono.drew _).trans E1499.mono)
  have f1520 := f1476.mono ((Mono.drew _).trans E1499.mono)
  have f1521 := f1477.mono ((Mono.drew _).trans E1499.mono)
  have f1522 := f1478.mono ((Mono.drew _).trans E1499.mono)
  have f1523 := f1479.mono ((Mono.drew _).trans E1499.mono)
  have f1524 := f1480.mono ((Mono.drew _).trans E1499.mono)
  have f1525 := f1481.mono ((Mono.drew _).trans E1499.mono)
  have f1526 := f1482.mono ((Mono.drew _).trans E1499.mono)
  have f1527 := f1483.mono ((Mono.drew _).trans E1499.mono)
  have f1528 := f1484.mono ((Mono.drew _).trans E1499.mono)
  have f1529 := f1485.mono ((Mono.drew _).trans E1499.mono)
  have f1530 := f1486.mono ((Mono.drew _).trans E1499.mono)
  have f1531 := f1487.mono ((Mono.drew _).trans E1499.mono)
  have f1532 := f1488.mono ((Mono.drew _).trans E1499.mono)
  have f1533 := f1489.mono ((Mono.drew _).trans E1499.mono)
  have f1534 := f1493.mono ((Mono.drew _).trans E1499.mono)
  have f1535 := f1495.mono ((Mono.drew _).trans E1499.mono)
  have f1536 : Cz v1499 (g1499 0) (zof (!(na0 == na1)) (M0 / M1)) := E1499.facts 0 (by decide)
  have f1537 : Cz v1499 (g1499 1) 1 := E1499.facts 1 (by decide)
  have f1538 : Cz v1499 (g1499 2) ((zof (!(na0 == na1)) (M0 / M1)) - 1) := E1499.facts 2 (by decide)
  obtain ⟨t1539, x1541, A1542, m1543, c1544, e1545, b1540⟩ := put_info (E1499.facts 3 (by decide)) p1388 f1538.shape
  have f1546 : Cz v1499 (.agg #[.bool x1541, .slice A1542 m1543 c1544]) ((zof (!(na0 == na1)) (M0 / M1)) - 1) := f1538.at e1545.symm
  refine then_normal ?_
  have HB : w.heap.size ≤ v1499.heap.size := T1500.size
  refine wp_plan_seq [.val (.cz ((zof na0 M0) - ((zof (!(na0 == na1)) (M0 / M1)) * (zof na1 M1)))), .val (.az N1 (zof na1 M1)), .val (.cz (((zof na0 M0) - ((zof (!(na0 == na1)) (M0 / M1)) * (zof na1 M1))) + (zof na1 M1))), .put 10 47] [10] [q1436] w.heap.size (by kernel_rfl) (by kernel_rfl) ⟨p1437, b1511.lt, (by simp), trivial⟩ HB ?_ ?_
  · exact ⟨fun s v h => does_val rfl rfl (x_load_z ((h.same 10 rfl).trans p1437) ((h.held 3 10 47 _ rfl rfl rfl p1437).trans b1511)) (f1532.mono h.mono),
      fun s v h => does_val rfl rfl (x_load_z ((h.same 3 rfl).trans p1311) ((h.far q1310 b1508.lt (nin1 n1442)).trans b1508)) (f1514.mono h.mono),
      fun s v h => does_call rfl rfl (x_call2 Try.call49) (r2add_k ((h.dep 0 rfl).az (N := N0) hrr) (h.dep 1 rfl) (by omega) (by omega)),
      fun s v h => does_put_z rfl rfl ((h.same 10 rfl).trans p1437) (h.dep 2 rfl).shape (h.mono.ok _ _ b1511.ok2) h1440, trivial⟩
  intro g1547 ts v1547 hts E1547
  simp only [fillL, Nat.reduceAdd, List.setIfInBounds_toArray, List.set_cons_zero, List.set_cons_succ] at hts
  subst hts
  have T1548 : Below w.heap.size w v1547 := T1500.trans E1547.below
  have l1549 : q1304 < v1499.heap.size := b1507.lt
  have l1550 : q1310 < v1499.heap.size := b1508.lt
  have l1551 : q1317 < v1499.heap.size := b1509.lt
  have l1552 : q1326 < v1499.heap.size := b1510.lt
  have l1553 : q1387 < v1499.heap.size := b1540.lt
  have l1554 : q1436 < v1499.heap.size := b1511.lt
  have b1555 : Bx v1547 q1304 24 #[.bool na0, .slice A0 n0 c0] := (E1547.far q1304 b1507.lt (nin1 n1441)).trans b1507
  have b1556 : Bx v1547 q1310 24 #[.bool na1, .slice A1 n1 c1] := (E1547.far q1310 b1508.lt (nin1 n1442)).trans b1508
  have b1557 : Bx v1547 q1317 24 #[.bool false, .slice none 0 0] := (E1547.far q1317 b1509.lt (nin1 n1443)).trans b1509
  have b1558 : Bx v1547 q1326 24 #[.bool false, .slice none 0 0] := (E1547.far q1326 b1510.lt (nin1 n1444)).trans b1510
  have b1559 : Bx v1547 q1387 t1539 #[.bool x1541, .slice A1542 m1543 c1544] := (E1547.far q1387 b1540.lt (nin1 n1445)).trans b1540
  have f1560 := f1512.mono E1547.mono
  have f1561 := f1513.mono E1547.mono
  have f1562 := f1514.mono E1547.mono
  have f1563 := f1515.mono E1547.mono
  have f1564 := f1516.mono E1547.mono
  have f1565 := f1517.mono E1547.mono
  have f1566 := f1518.mono E1547.mono
  have f1567 := f1519.mono E1547.mono
  have f1568 := f1520.mono E1547.mono
  have f1569 := f1521.mono E1547.mono
  have f1570 := f1522.mono E1547.mono
  have f1571 := f1523.mono E1547.mono
  have f1572 := f1524.mono E1547.mono
  have f1573 := f1525.mono E1547.mono
  have f1574 := f1526.mono E1547.mono
  have f1575 := f1527.mono E1547.mono
  have f1576 := f1528.mono E1547.mono
  have f1577 := f1529.mono E1547.mono
  have f1578 := f1530.mono E1547.mono
  have f1579 := f1531.mono E1547.mono
  have f1580 := f1532.mono E1547.mono
  have f1581 := f1533.mono E1547.mono
  have f1582 := f1534.mono E1547.mono
  have f1583 := f1535.mono E1547.mono
  have f1584 := f1536.mono E1547.mono
  have f1585 := f1537.mono E1547.mono
  have f1586 := f1538.mono E1547.mono
  have f1587 := f1546.mono E1547.mono
  have f1588 : Cz v1547 (g1547 0) ((zof na0 M0) - ((zof (!(na0 == na1)) (M0 / M1)) * (zof na1 M1))) := E1547.facts 0 (by decide)
  have f1589 : Az N1 v1547 (g1547 1) (zof na1 M1) := E1547.facts 1 (by decide)
  have f1590 : Cz v1547 (g1547 2) (((zof na0 M0) - ((zof (!(na0 == na1)) (M0 / M1)) * (zof na1 M1))) + (zof na1 M1)) := E1547.facts 2 (by decide)
  obtain ⟨t1591, x1593, A1594, m1595, c1596, e1597, b1592⟩ := put_info (E1547.facts 3 (by decide)) p1437 f1590.shape
  have f1598 : Cz v1547 (.agg #[.bool x1593, .slice A1594 m1595 c1596]) (((zof na0 M0) - ((zof (!(na0 == na1)) (M0 / M1)) * (zof na1 M1))) + (zof na1 M1)) := f1590.at e1597.symm
  refine then_normal ?_
  refine wp_seq ?_
  have HB : w.heap.size ≤ v1547.heap.size := T1548.size
  refine wp_plan_any [.val (.cz ((zof (!(na0 == na1)) (M0 / M1)) - 1)), .val (.cz (((zof na0 M0) - ((zof (!(na0 == na1)) (M0 / M1)) * (zof na1 M1))) + (zof na1 M1))), .put 4 48, .put 5 49] [4, 5] [q1317, q1326] w.heap.size (by kernel_rfl) (by kernel_rfl) (by kernel_rfl) ⟨p1318, b1557.lt, (nin1 n1335), ⟨p1327, b1558.lt, (by simp), trivial⟩⟩ HB ?_ ?_
  · exact ⟨fun s v h => does_val rfl rfl (x_load_z ((h.same 9 rfl).trans p1388) ((h.far q1387 b1559.lt (nin2 n1394.symm n1395.symm)).trans b1559)) (f1587.mono ((Mono.drew _).trans h.mono)),
      fun s v h => does_val rfl rfl (x_load_z ((h.same 10 rfl).trans p1437) ((h.far q1436 b1592.lt (nin2 n1443.symm n1444.symm)).trans b1592)) (f1598.mono ((Mono.drew _).trans h.mono)),
      fun s v h => does_put_z rfl rfl ((h.same 4 rfl).trans p1318) (h.dep 0 rfl).shape (((Mono.drew _).trans h.mono).ok _ _ b1557.ok2) h1323,
      fun s v h => does_put_z rfl rfl ((h.same 5 rfl).trans p1327) (h.dep 1 rfl).shape (((Mono.drew _).trans h.mono).ok _ _ b1558.ok2) h1332, trivial⟩
  intro g1599 ts v1599 hts E1599
  simp only [fillL, Nat.reduceAdd, List.setIfInBounds_toArray, List.set_cons_zero, List.set_cons_succ] at hts
  subst hts
  have T1600 : Below w.heap.size w v1599 := (below_toDrew T1548).trans E1599.below
  have l1601 : q1304 < v1547.heap.size := b1555.lt
  have l1602 : q1310 < v1547.heap.size := b1556.lt
  have l1603 : q1317 < v1547.heap.size := b1557.lt
  have l1604 : q1326 < v1547.heap.size := b1558.lt
  have l1605 : q1387 < v1547.heap.size := b1559.lt
  have l1606 : q1436 < v1547.heap.size := b1592.lt
  have b1607 : Bx v1599 q1304 24 #[.bool na0, .slice A0 n0 c0] := (E1599.far q1304 b1555.lt (nin2 n1324 n1333)).trans b1555
  have b1608 : Bx v1599 q1310 24 #[.bool na1, .slice A1 n1 c1] := (E1599.far q1310 b1556.lt (nin2 n1325 n1334)).trans b1556
  have b1609 : Bx v1599 q1387 t1539 #[.bool x1541, .slice A1542 m1543 c1544] := (E1599.far q1387 b1559.lt (nin2 n1394.symm n1395.symm)).trans b1559
  have b1610 : Bx v1599 q1436 t1591 #[.bool x1593, .slice A1594 m1595 c1596] := (E1599.far q1436 b1592.lt (nin2 n1443.symm n1444.symm)).trans b1592
  have f1611 := f1560.mono ((Mono.drew _).trans E1599.mono)
  have f1612 := f1561.mono ((Mono.drew _).trans E1599.mono)
  have f1613 := f1562.mono ((Mono.drew _).trans E1599.mono)
  have f1614 := f1563.mono ((Mono.drew _).trans E1599.mono)
  have f1615 := f1564.mono ((Mono.drew _).trans E1599.mono)
  have f1616 := f1565.mono ((Mono.drew _).trans E1599.mono)
  have f1617 := f1566.mono ((Mono.drew _).trans E1599.mono)
  have f1618 := f1567.mono ((Mono.drew _).trans E1599.mono)
  have f1619 := f1568.mono ((Mono.drew _).trans E1599.mono)
  have f1620 := f1569.mono ((Mono.drew _).trans E1599.mono)
  have f1621 := f1570.mono ((Mono.drew _).trans E1599.mono)
  have f1622 := f1571.mono ((Mono.drew _).trans E1599.mono)
  have f1623 := f1572.mono ((Mono.drew _).trans E1599.mono)
  have f1624 := f1573.mono ((Mono.drew _).trans E1599.mono)
  have f1625 := f1574.mono ((Mono.drew _).trans E1599.mono)
  have f1626 := f1575.mono ((Mono.drew _).trans E1599.mono)
  have f1627 := f1576.mono ((Mono.drew _).trans E1599.mono)
  have f1628 := f1577.mono ((Mono.drew _).trans E1599.mono)
  have f1629 := f1578.mono ((Mono.drew _).trans E1599.mono)
  have f1630 := f1579.mono ((Mono.drew _).trans E1599.mono)
  have f1631 := f1580.mono ((Mono.drew _).trans E1599.mono)
  have f1632 := f1581.mono ((Mono.drew _).trans E1599.mono)
  have f1633 := f1582.mono ((Mono.drew _).trans E1599.mono)
  have f1634 := f1583.mono ((Mono.drew _).trans E1599.mono)
  have f1635 := f1584.mono ((Mono.drew _).trans E1599.mono)
  have f1636 := f1585.mono ((Mono.drew _).trans E1599.mono)
  have f1637 := f1586.mono ((Mono.drew _).trans E1599.mono)
  have f1638 := f1587.mono ((Mono.drew _).trans E1599.mono)
  have f1639 := f1588.mono ((Mono.drew _).trans E1599.mono)
  have f1640 := f1589.mono ((Mono.drew _).trans E1599.mono)
  have f1641 := f1590.mono ((Mono.drew _).trans E1599.mono)
  have f1642 := f1598.mono ((Mono.drew _).trans E1599.mono)
  have f1643 : Cz v1599 (g1599 0) ((zof (!(na0 == na1)) (M0 / M1)) - 1) := E1599.facts 0 (by decide)
  have f1644 : Cz v1599 (g1599 1) (((zof na0 M0) - ((zof (!(na0 == na1)) (M0 / M1)) * (zof na1 M1))) + (zof na1 M1)) := E1599.facts 1 (by decide)
  obtain ⟨t1645, x1647, A1648, m1649, c1650, e1651, b1646⟩ := put_info (E1599.facts 2 (by decide)) p1318 f1643.shape
  have f1652 : Cz v1599 (.agg #[.bool x1647, .slice A1648 m1649 c1650]) ((zof (!(na0 == na1)) (M0 / M1)) - 1) := f1643.at e1651.symm
  obtain ⟨t1653, x1655, A1656, m1657, c1658, e1659, b1654⟩ := put_info (E1599.facts 3 (by decide)) p1327 f1644.shape
  have f1660 : Cz v1599 (.agg #[.bool x1655, .slice A1656 m1657 c1658]) (((zof na0 M0) - ((zof (!(na0 == na1)) (M0 / M1)) * (zof na1 M1))) + (zof na1 M1)) := f1644.at e1659.symm
  refine then_normal ?_
  refine wp_ret ?_
  exact bodyPost_ret (ret_cc rfl p1318 b1646 p1327 b1654) rfl ⟨_, rfl, ⟨_, _, rfl, f1652, f1660⟩, T1600⟩

theorem r2floor_k {w : World} {x y : Value} {z u : Int} {N M : Nat} (h : Az N w x z) (h' : Az M w y u) (hN : N ≤ 17592186044000) (hM : M ≤ 17592186044000) (hu : u ≠ 0) :
    Calls Try.prog 29 #[x, y] w (Ret (.tup2 (.cz (fl z u)) (.cz (md z u))) w) := by
  obtain ⟨na, A, n, c, a, rfl, hm, hz⟩ := h.parts
  obtain ⟨nb, A', n', c', b, rfl, hm', hz'⟩ := h'.parts
  have hb : 0 < b := by rcases Nat.eq_zero_or_pos b with h0 | h0; (subst h0; exact absurd (by rw [← hz']; cases nb <;> rfl) hu); exact h0
  have e : zof na a - zof (!(na == nb)) (a / b) * zof nb b = zof na (a % b) := by
    have := zof_div na nb a b
    omega
  have hl : (digs (zof na a - zof (!(na == nb)) (a / b) * zof nb b).natAbs).length ≤ N := by rw [e, zof_abs]; exact Nat.le_trans (dl_le (Nat.mod_le a b)) hm.len
  rcases floor_ways (s := na) (t := nb) (a := a) hb hz hz' with ⟨d1, e1, e2⟩ | ⟨d1, d2, e1, e2⟩ | ⟨d1, d2, e1, e2⟩
  · have := r2floor_a hm hm' hN hM hb hl (by rw [e]; exact d1)
    rwa [e, e1, e2] at this
  · have := r2floor_b hm hm' hN hM hb hl (by rw [e]; exact d1) (by rw [e, hz']; exact d2)
    rwa [e, e1, e2] at this
  · have := r2floor_c hm hm' hN hM hb hl (by rw [e]; exact d1) (by rw [e, hz']; exact d2)
    rwa [e, hz', e1, e2] at this

end Go.Proofs.Ytkidgeeedigkhaa
