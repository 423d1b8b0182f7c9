/- The law ZintQuotients. -/
import Derived.Test.YtkidgeeedigkhaaY3
import Derived.Test.YtkidgeeedigkhaaA6
namespace Go.Proofs.Ytkidgeeedigkhaa
open Go.RowKit

set_option maxRecDepth 8000 in
theorem zq_a {w : World} {x : Value} {z : Int} (h0 : Az 1048576 w x z) {y : Value} {u : Int} (h1 : Az 1048576 w y u) (hu : u ≠ 0) (d0 : (u.sign == 0) = false) (d1 : ((md z u).sign == 0) = true)  : Calls Try.prog 5 #[x, y] w (Ret (.is (.bool true)) w) := by
  have la0 := h0.len
  obtain ⟨na0, A0, n0, c0, M0, rfl, hm0, hz0⟩ := h0.parts
  have la1 := h1.len
  obtain ⟨na1, A1, n1, c1, M1, rfl, hm1, hz1⟩ := h1.parts
  have T0 : Below w.heap.size w w := Below.refl _ _
  go_enter Try.func5, Try.ntmps5
  refine wp_seq ?_
  have HB : w.heap.size ≤ w.heap.size := T0.size
  refine wp_plan_seq [.new 2 (some (24, #[.bool na0, .slice A0 n0 c0])), .new 2 (some (24, #[.bool na1, .slice A1 n1 c1])), .val (.is (.bool false))] [] [] w.heap.size (by kernel_rfl) (by kernel_rfl) trivial HB ?_ ?_
  · exact ⟨fun s v h => does_new rfl rfl (x_box_z (h.same 0 rfl)) (okz _ _ _ _) rfl (.inr rfl),
      fun s v h => does_new rfl rfl (x_box_z (h.same 1 rfl)) (okz _ _ _ _) rfl (.inr rfl),
      fun s v h => does_val rfl rfl (x_assign) rfl, trivial⟩
  intro g1 ts v1 hts E1
  simp only [fillL, Nat.reduceAdd, List.setIfInBounds_toArray, List.set_cons_zero, List.set_cons_succ] at hts
  subst hts
  have T2 : Below w.heap.size w v1 := T0.trans E1.below
  have f3 := h0.mono E1.mono
  have f4 := hm0.mono E1.mono
  have f5 := h1.mono E1.mono
  have f6 := hm1.mono E1.mono
  have e7 : g1 2 = (.bool false) := E1.facts 2 (by decide)
  obtain ⟨q8, p9, l10, o11, b12⟩ : ∃ q, g1 0 = .pointer (some ⟨q, 0, none⟩) ∧ w.heap.size ≤ q ∧ OkB v1 q 2 ∧ Bx v1 q 24 #[.bool na0, .slice A0 n0 c0] := E1.facts 0 (by decide)
  have h13 : w.heap.size ≤ q8 := Nat.le_trans HB l10
  obtain ⟨q14, p15, l16, o17, b18⟩ : ∃ q, g1 1 = .pointer (some ⟨q, 0, none⟩) ∧ w.heap.size ≤ q ∧ OkB v1 q 2 ∧ Bx v1 q 24 #[.bool na1, .slice A1 n1 c1] := E1.facts 1 (by decide)
  have h19 : w.heap.size ≤ q14 := Nat.le_trans HB l16
  have n20 : q8 ≠ q14 := apart_ne (E1.apart 0 1 (by decide) (by decide) (by decide) ⟨_, _, rfl⟩ ⟨_, _, rfl⟩) p9 p15
  refine then_normal ?_
  refine wp_seq ?_
  have HB : w.heap.size ≤ v1.heap.size := T2.size
  refine wp_plan_any [.val (.az 1048576 z), .val (.az 1048576 z), .val (.az 1048576 u), .val (.az 1048576 u), .val (.tup3 (.cz (fl z u)) (.cz (md z u)) (.is (.int .i64 0))), .val (.tup3 (.cz (fl z u)) (.cz (md z u)) (.is (.int .i64 0))), .val (.cz (fl z u)), .val (.cz (md z u)), .val (.is (.int .i64 0)), .new 2 none, .new 2 none, .put 5 22, .put 6 23, .val (.is (.int .i64 0))] [] [] w.heap.size (by kernel_rfl) (by kernel_rfl) (by kernel_rfl) trivial HB ?_ ?_
  · exact ⟨fun s v h => does_val rfl rfl (x_load_z ((h.same 2 rfl).trans p9) ((h.far q8 b12.lt (by simp)).trans b12)) (f3.mono ((Mono.drew _).trans h.mono)),
      fun s v h => does_call rfl rfl (x_call1 Try.call18) (own_k (h.dep 0 rfl) (by omega)),
      fun s v h => does_val rfl rfl (x_load_z ((h.same 3 rfl).trans p15) ((h.far q14 b18.lt (by simp)).trans b18)) (f5.mono ((Mono.drew _).trans h.mono)),
      fun s v h => does_call rfl rfl (x_call1 Try.call18) (own_k (h.dep 2 rfl) (by omega)),
      fun s v h => does_call rfl rfl (x_call2 Try.call24) (zfloor_k (h.dep 1 rfl) (h.dep 3 rfl) (by omega) (by omega) hu),
      fun s v h => does_val rfl rfl (x_move) (h.dep 4 rfl),
      fun s v h => by obtain ⟨r0, r1, r2, e, f0, f1, f2⟩ := tup3_at (h.dep 5 rfl); exact does_val rfl rfl (x_ext e rfl) f0,
      fun s v h => by obtain ⟨r0, r1, r2, e, f0, f1, f2⟩ := tup3_at (h.dep 5 rfl); exact does_val rfl rfl (x_ext e rfl) f1,
      fun s v h => by obtain ⟨r0, r1, r2, e, f0, f1, f2⟩ := tup3_at (h.dep 5 rfl); exact does_val rfl rfl (x_ext e rfl) f2,
      fun s v h => does_new rfl rfl x_alloc_z (okz _ _ _ _) rfl (.inl rfl),
      fun s v h => does_new rfl rfl x_alloc_z (okz _ _ _ _) rfl (.inl rfl),
      fun s v h => by obtain ⟨q, e1, e2, e3⟩ := new_at (h.dep 9 rfl); exact does_put_z rfl rfl e1 (h.dep 6 rfl).shape e3 (Nat.le_trans HB e2),
      fun s v h => by obtain ⟨q, e1, e2, e3⟩ := new_at (h.dep 10 rfl); exact does_put_z rfl rfl e1 (h.dep 7 rfl).shape e3 (Nat.le_trans HB e2),
      fun s v h => does_val rfl rfl (x_assign) (h.dep 8 rfl), trivial⟩
  intro g21 ts v21 hts E21
  simp only [fillL, Nat.reduceAdd, List.setIfInBounds_toArray, List.set_cons_zero, List.set_cons_succ] at hts
  subst hts
  have T22 : Below w.heap.size w v21 := (below_toDrew T2).trans E21.below
  have l23 : q8 < v1.heap.size := b12.lt
  have l24 : q14 < v1.heap.size := b18.lt
  have b25 : Bx v21 q8 24 #[.bool na0, .slice A0 n0 c0] := (E21.far q8 b12.lt (by simp)).trans b12
  have b26 : Bx v21 q14 24 #[.bool na1, .slice A1 n1 c1] := (E21.far q14 b18.lt (by simp)).trans b18
  have f27 := f3.mono ((Mono.drew _).trans E21.mono)
  have f28 := f4.mono ((Mono.drew _).trans E21.mono)
  have f29 := f5.mono ((Mono.drew _).trans E21.mono)
  have f30 := f6.mono ((Mono.drew _).trans E21.mono)
  have f31 : Az 1048576 v21 (g21 0) z := E21.facts 0 (by decide)
  have f32 : Az 1048576 v21 (g21 1) z := E21.facts 1 (by decide)
  have f33 : Az 1048576 v21 (g21 2) u := E21.facts 2 (by decide)
  have f34 : Az 1048576 v21 (g21 3) u := E21.facts 3 (by decide)
  have f35 : Cz v21 (g21 6) (fl z u) := E21.facts 6 (by decide)
  have f36 : Cz v21 (g21 7) (md z u) := E21.facts 7 (by decide)
  have e37 : g21 8 = (.int .i64 0) := E21.facts 8 (by decide)
  have e38 : g21 13 = (.int .i64 0) := E21.facts 13 (by decide)
  obtain ⟨q39, p40, l41, o42⟩ : ∃ q, g21 9 = .pointer (some ⟨q, 0, none⟩) ∧ v1.heap.size ≤ q ∧ OkB v21 q 2 := E21.facts 9 (by decide)
  have h43 : w.heap.size ≤ q39 := Nat.le_trans HB l41
  have n44 : q8 ≠ q39 := by omega
  have n45 : q14 ≠ q39 := by omega
  obtain ⟨q46, p47, l48, o49⟩ : ∃ q, g21 10 = .pointer (some ⟨q, 0, none⟩) ∧ v1.heap.size ≤ q ∧ OkB v21 q 2 := E21.facts 10 (by decide)
  have h50 : w.heap.size ≤ q46 := Nat.le_trans HB l48
  have n51 : q8 ≠ q46 := by omega
  have n52 : q14 ≠ q46 := by omega
  have n53 : q39 ≠ q46 := apart_ne (E21.apart 9 10 (by decide) (by decide) (by decide) ⟨_, _, rfl⟩ ⟨_, _, rfl⟩) p40 p47
  obtain ⟨t54, x56, A57, m58, c59, e60, b55⟩ := put_info (E21.facts 11 (by decide)) p40 f35.shape
  have f61 : Cz v21 (.agg #[.bool x56, .slice A57 m58 c59]) (fl z u) := f35.at e60.symm
  obtain ⟨t62, x64, A65, m66, c67, e68, b63⟩ := put_info (E21.facts 12 (by decide)) p47 f36.shape
  have f69 : Cz v21 (.agg #[.bool x64, .slice A65 m66 c67]) (md z u) := f36.at e68.symm
  refine then_normal ?_
  refine wp_seq ?_
  have HB : w.heap.size ≤ v21.heap.size := T22.size
  refine wp_plan_any [.val (.az 1048576 z), .val (.az 1048576 z), .val (.az 1048576 u), .val (.az 1048576 u), .val (.tup2 (.cz (fl (z + z + u) (u + u))) (.is (.int .i64 0))), .val (.tup2 (.cz (fl (z + z + u) (u + u))) (.is (.int .i64 0))), .val (.cz (fl (z + z + u) (u + u))), .val (.is (.int .i64 0)), .new 2 none, .put 8 31, .val (.is (.int .i64 0))] [] [] w.heap.size (by kernel_rfl) (by kernel_rfl) (by kernel_rfl) trivial HB ?_ ?_
  · exact ⟨fun s v h => does_val rfl rfl (x_load_z ((h.same 2 rfl).trans p9) ((h.far q8 b25.lt (by simp)).trans b25)) (f27.mono ((Mono.drew _).trans h.mono)),
      fun s v h => does_call rfl rfl (x_call1 Try.call18) (own_k (h.dep 0 rfl) (by omega)),
      fun s v h => does_val rfl rfl (x_load_z ((h.same 3 rfl).trans p15) ((h.far q14 b26.lt (by simp)).trans b26)) (f29.mono ((Mono.drew _).trans h.mono)),
      fun s v h => does_call rfl rfl (x_call1 Try.call18) (own_k (h.dep 2 rfl) (by omega)),
      fun s v h => does_call rfl rfl (x_call2 Try.call25) (znear_k (h.dep 1 rfl) (h.dep 3 rfl) (by omega) (by omega) (by omega)),
      fun s v h => does_val rfl rfl (x_move) (h.dep 4 rfl),
      fun s v h => by obtain ⟨r0, r1, e, f0, f1⟩ := tup2_at (h.dep 5 rfl); exact does_val rfl rfl (x_ext e rfl) f0,
      fun s v h => by obtain ⟨r0, r1, e, f0, f1⟩ := tup2_at (h.dep 5 rfl); exact does_val rfl rfl (x_ext e rfl) f1,
      fun s v h => does_new rfl rfl x_alloc_z (okz _ _ _ _) rfl (.inl rfl),
      fun s v h => by obtain ⟨q, e1, e2, e3⟩ := new_at (h.dep 8 rfl); exact does_put_z rfl rfl e1 (h.dep 6 rfl).shape e3 (Nat.le_trans HB e2),
      fun s v h => does_val rfl rfl (x_assign) (h.dep 7 rfl), trivial⟩
  intro g70 ts v70 hts E70
  simp only [fillL, Nat.reduceAdd, List.setIfInBounds_toArray, List.set_cons_zero, List.set_cons_succ] at hts
  subst hts
  have T71 : Below w.heap.size w v70 := (below_toDrew T22).trans E70.below
  have l72 : q8 < v21.heap.size := b25.lt
  have l73 : q14 < v21.heap.size := b26.lt
  have l74 : q39 < v21.heap.size := b55.lt
  have l75 : q46 < v21.heap.size := b63.lt
  have b76 : Bx v70 q8 24 #[.bool na0, .slice A0 n0 c0] := (E70.far q8 b25.lt (by simp)).trans b25
  have b77 : Bx v70 q14 24 #[.bool na1, .slice A1 n1 c1] := (E70.far q14 b26.lt (by simp)).trans b26
  have b78 : Bx v70 q39 t54 #[.bool x56, .slice A57 m58 c59] := (E70.far q39 b55.lt (by simp)).trans b55
  have b79 : Bx v70 q46 t62 #[.bool x64, .slice A65 m66 c67] := (E70.far q46 b63.lt (by simp)).trans b63
  have f80 := f27.mono ((Mono.drew _).trans E70.mono)
  have f81 := f28.mono ((Mono.drew _).trans E70.mono)
  have f82 := f29.mono ((Mono.drew _).trans E70.mono)
  have f83 := f30.mono ((Mono.drew _).trans E70.mono)
  have f84 := f31.mono ((Mono.drew _).trans E70.mono)
  have f85 := f32.mono ((Mono.drew _).trans E70.mono)
  have f86 := f33.mono ((Mono.drew _).trans E70.mono)
  have f87 := f34.mono ((Mono.drew _).trans E70.mono)
  have f88 := f35.mono ((Mono.drew _).trans E70.mono)
  have f89 := f36.mono ((Mono.drew _).trans E70.mono)
  have f90 := f61.mono ((Mono.drew _).trans E70.mono)
  have f91 := f69.mono ((Mono.drew _).trans E70.mono)
  have f92 : Az 1048576 v70 (g70 0) z := E70.facts 0 (by decide)
  have f93 : Az 1048576 v70 (g70 1) z := E70.facts 1 (by decide)
  have f94 : Az 1048576 v70 (g70 2) u := E70.facts 2 (by decide)
  have f95 : Az 1048576 v70 (g70 3) u := E70.facts 3 (by decide)
  have f96 : Cz v70 (g70 6) (fl (z + z + u) (u + u)) := E70.facts 6 (by decide)
  have e97 : g70 7 = (.int .i64 0) := E70.facts 7 (by decide)
  have e98 : g70 10 = (.int .i64 0) := E70.facts 10 (by decide)
  obtain ⟨q99, p100, l101, o102⟩ : ∃ q, g70 8 = .pointer (some ⟨q, 0, none⟩) ∧ v21.heap.size ≤ q ∧ OkB v70 q 2 := E70.facts 8 (by decide)
  have h103 : w.heap.size ≤ q99 := Nat.le_trans HB l101
  have n104 : q8 ≠ q99 := by omega
  have n105 : q14 ≠ q99 := by omega
  have n106 : q39 ≠ q99 := by omega
  have n107 : q46 ≠ q99 := by omega
  obtain ⟨t108, x110, A111, m112, c113, e114, b109⟩ := put_info (E70.facts 9 (by decide)) p100 f96.shape
  have f115 : Cz v70 (.agg #[.bool x110, .slice A111 m112 c113]) (fl (z + z + u) (u + u)) := f96.at e114.symm
  refine then_normal ?_
  refine wp_seq ?_
  have HB : w.heap.size ≤ v70.heap.size := T71.size
  refine wp_plan_any [.val (.az 1048576 z), .val (.az 1048576 z), .val (.az 1048576 u), .val (.az 1048576 u), .val (.tup2 (.cz (fl z u)) (.is (.int .i64 0))), .val (.tup2 (.cz (fl z u)) (.is (.int .i64 0))), .val (.cz (fl z u)), .val (.is (.int .i64 0)), .new 2 none, .put 10 39, .val (.is (.int .i64 0))] [] [] w.heap.size (by kernel_rfl) (by kernel_rfl) (by kernel_rfl) trivial HB ?_ ?_
  · exact ⟨fun s v h => does_val rfl rfl (x_load_z ((h.same 2 rfl).trans p9) ((h.far q8 b76.lt (by simp)).trans b76)) (f80.mono ((Mono.drew _).trans h.mono)),
      fun s v h => does_call rfl rfl (x_call1 Try.call18) (own_k (h.dep 0 rfl) (by omega)),
      fun s v h => does_val rfl rfl (x_load_z ((h.same 3 rfl).trans p15) ((h.far q14 b77.lt (by simp)).trans b77)) (f82.mono ((Mono.drew _).trans h.mono)),
      fun s v h => does_call rfl rfl (x_call1 Try.call18) (own_k (h.dep 2 rfl) (by omega)),
      fun s v h => does_call rfl rfl (x_call2 Try.call26) (zexact_a (h.dep 1 rfl) (h.dep 3 rfl) (by omega) (by omega) hu d1),
      fun s v h => does_val rfl rfl (x_move) (h.dep 4 rfl),
      fun s v h => by obtain ⟨r0, r1, e, f0, f1⟩ := tup2_at (h.dep 5 rfl); exact does_val rfl rfl (x_ext e rfl) f0,
      fun s v h => by obtain ⟨r0, r1, e, f0, f1⟩ := tup2_at (h.dep 5 rfl); exact does_val rfl rfl (x_ext e rfl) f1,
      fun s v h => does_new rfl rfl x_alloc_z (okz _ _ _ _) rfl (.inl rfl),
      fun s v h => by obtain ⟨q, e1, e2, e3⟩ := new_at (h.dep 8 rfl); exact does_put_z rfl rfl e1 (h.dep 6 rfl).shape e3 (Nat.le_trans HB e2),
      fun s v h => does_val rfl rfl (x_assign) (h.dep 7 rfl), trivial⟩
  intro g116 ts v116 hts E116
  simp only [fillL, Nat.reduceAdd, List.setIfInBounds_toArray, List.set_cons_zero, List.set_cons_succ] at hts
  subst hts
  have T117 : Below w.heap.size w v116 := (below_toDrew T71).trans E116.below
  have l118 : q8 < v70.heap.size := b76.lt
  have l119 : q14 < v70.heap.size := b77.lt
  have l120 : q39 < v70.heap.size := b78.lt
  have l121 : q46 < v70.heap.size := b79.lt
  have l122 : q99 < v70.heap.size := b109.lt
  have b123 : Bx v116 q8 24 #[.bool na0, .slice A0 n0 c0] := (E116.far q8 b76.lt (by simp)).trans b76
  have b124 : Bx v116 q14 24 #[.bool na1, .slice A1 n1 c1] := (E116.far q14 b77.lt (by simp)).trans b77
  have b125 : Bx v116 q39 t54 #[.bool x56, .slice A57 m58 c59] := (E116.far q39 b78.lt (by simp)).trans b78
  have b126 : Bx v116 q46 t62 #[.bool x64, .slice A65 m66 c67] := (E116.far q46 b79.lt (by simp)).trans b79
  have b127 : Bx v116 q99 t108 #[.bool x110, .slice A111 m112 c113] := (E116.far q99 b109.lt (by simp)).trans b109
  have f128 := f80.mono ((Mono.drew _).trans E116.mono)
  have f129 := f81.mono ((Mono.drew _).trans E116.mono)
  have f130 := f82.mono ((Mono.drew _).trans E116.mono)
  have f131 := f83.mono ((Mono.drew _).trans E116.mono)
  have f132 := f84.mono ((Mono.drew _).trans E116.mono)
  have f133 := f85.mono ((Mono.drew _).trans E116.mono)
  have f134 := f86.mono ((Mono.drew _).trans E116.mono)
  have f135 := f87.mono ((Mono.drew _).trans E116.mono)
  have f136 := f88.mono ((Mono.drew _).trans E116.mono)
  have f137 := f89.mono ((Mono.drew _).trans E116.mono)
  have f138 := f90.mono ((Mono.drew _).trans E116.mono)
  have f139 := f91.mono ((Mono.drew _).trans E116.mono)
  have f140 := f92.mono ((Mono.drew _).trans E116.mono)
  have f141 := f93.mono ((Mono.drew _).trans E116.mono)
  have f142 := f94.mono ((Mono.drew _).trans E116.mono)
  have f143 := f95.mono ((Mono.drew _).trans E116.mono)
  have f144 := f96.mono ((Mono.drew _).trans E116.mono)
  have f145 := f115.mono ((Mono.drew _).trans E116.mono)
  have f146 : Az 1048576 v116 (g116 0) z := E116.facts 0 (by decide)
  have f147 : Az 1048576 v116 (g116 1) z := E116.facts 1 (by decide)
  have f148 : Az 1048576 v116 (g116 2) u := E116.facts 2 (by decide)
  have f149 : Az 1048576 v116 (g116 3) u := E116.facts 3 (by decide)
  have f150 : Cz v116 (g116 6) (fl z u) := E116.facts 6 (by decide)
  have e151 : g116 7 = (.int .i64 0) := E116.facts 7 (by decide)
  have e152 : g116 10 = (.int .i64 0) := E116.facts 10 (by decide)
  obtain ⟨q153, p154, l155, o156⟩ : ∃ q, g116 8 = .pointer (some ⟨q, 0, none⟩) ∧ v70.heap.size ≤ q ∧ OkB v116 q 2 := E116.facts 8 (by decide)
  have h157 : w.heap.size ≤ q153 := Nat.le_trans HB l155
  have n158 : q8 ≠ q153 := by omega
  have n159 : q14 ≠ q153 := by omega
  have n160 : q39 ≠ q153 := by omega
  have n161 : q46 ≠ q153 := by omega
  have n162 : q99 ≠ q153 := by omega
  obtain ⟨t163, x165, A166, m167, c168, e169, b164⟩ := put_info (E116.facts 9 (by decide)) p154 f150.shape
  have f170 : Cz v116 (.agg #[.bool x165, .slice A166 m167 c168]) (fl z u) := f150.at e169.symm
  refine then_normal ?_
  refine wp_seq ?_
  have HB : w.heap.size ≤ v116.heap.size := T117.size
  refine wp_plan_seq [.val (.az 1048576 z), .val (.az 1048576 u), .val (.tup2 (.cz (fl z u)) (.is (.int .i64 0))), .val (.tup2 (.cz (fl z u)) (.is (.int .i64 0))), .val (.cz (fl z u)), .val (.is (.int .i64 0)), .new 2 none, .put 12 45, .val (.is (.int .i64 0))] [] [] w.heap.size (by kernel_rfl) (by kernel_rfl) trivial HB ?_ ?_
  · exact ⟨fun s v h => does_val rfl rfl (x_load_z ((h.same 2 rfl).trans p9) ((h.far q8 b123.lt (by simp)).trans b123)) (f128.mono h.mono),
      fun s v h => does_val rfl rfl (x_load_z ((h.same 3 rfl).trans p15) ((h.far q14 b124.lt (by simp)).trans b124)) (f130.mono h.mono),
      fun s v h => does_call rfl rfl (x_call2 Try.call27) (r2exact_a (h.dep 0 rfl) (h.dep 1 rfl) (by omega) (by omega) hu d0 d1),
      fun s v h => does_val rfl rfl (x_move) (h.dep 2 rfl),
      fun s v h => by obtain ⟨r0, r1, e, f0, f1⟩ := tup2_at (h.dep 3 rfl); exact does_val rfl rfl (x_ext e rfl) f0,
      fun s v h => by obtain ⟨r0, r1, e, f0, f1⟩ := tup2_at (h.dep 3 rfl); exact does_val rfl rfl (x_ext e rfl) f1,
      fun s v h => does_new rfl rfl x_alloc_z (okz _ _ _ _) rfl (.inl rfl),
      fun s v h => by obtain ⟨q, e1, e2, e3⟩ := new_at (h.dep 6 rfl); exact does_put_z rfl rfl e1 (h.dep 4 rfl).shape e3 (Nat.le_trans HB e2),
      fun s v h => does_val rfl rfl (x_assign) (h.dep 5 rfl), trivial⟩
  intro g171 ts v171 hts E171
  simp only [fillL, Nat.reduceAdd, List.setIfInBounds_toArray, List.set_cons_zero, List.set_cons_succ] at hts
  subst hts
  have T172 : Below w.heap.size w v171 := T117.trans E171.below
  have l173 : q8 < v116.heap.size := b123.lt
  have l174 : q14 < v116.heap.size := b124.lt
  have l175 : q39 < v116.heap.size := b125.lt
  have l176 : q46 < v116.heap.size := b126.lt
  have l177 : q99 < v116.heap.size := b127.lt
  have l178 : q153 < v116.heap.size := b164.lt
  have b179 : Bx v171 q8 24 #[.bool na0, .slice A0 n0 c0] := (E171.far q8 b123.lt (by simp)).trans b123
  have b180 : Bx v171 q14 24 #[.bool na1, .slice A1 n1 c1] := (E171.far q14 b124.lt (by simp)).trans b124
  have b181 : Bx v171 q39 t54 #[.bool x56, .slice A57 m58 c59] := (E171.far q39 b125.lt (by simp)).trans b125
  have b182 : Bx v171 q46 t62 #[.bool x64, .slice A65 m66 c67] := (E171.far q46 b126.lt (by simp)).trans b126
  have b183 : Bx v171 q99 t108 #[.bool x110, .slice A111 m112 c113] := (E171.far q99 b127.lt (by simp)).trans b127
  have b184 : Bx v171 q153 t163 #[.bool x165, .slice A166 m167 c168] := (E171.far q153 b164.lt (by simp)).trans b164
  have f185 := f128.mono E171.mono
  have f186 := f129.mono E171.mono
  have f187 := f130.mono E171.mono
  have f188 := f131.mono E171.mono
  have f189 := f132.mono E171.mono
  have f190 := f133.mono E171.mono
  have f191 := f134.mono E171.mono
  have f192 := f135.mono E171.mono
  have f193 := f136.mono E171.mono
  have f194 := f137.mono E171.mono
  have f195 := f138.mono E171.mono
  have f196 := f139.mono E171.mono
  have f197 := f140.mono E171.mono
  have f198 := f141.mono E171.mono
  have f199 := f142.mono E171.mono
  have f200 := f143.mono E171.mono
  have f201 := f144.mono E171.mono
  have f202 := f145.mono E171.mono
  have f203 := f146.mono E171.mono
  have f204 := f147.mono E171.mono
  have f205 := f148.mono E171.mono
  have f206 := f149.mono E171.mono
  have f207 := f150.mono E171.mono
  have f208 := f170.mono E171.mono
  have f209 : Az 1048576 v171 (g171 0) z := E171.facts 0 (by decide)
  have f210 : Az 1048576 v171 (g171 1) u := E171.facts 1 (by decide)
  have f211 : Cz v171 (g171 4) (fl z u) := E171.facts 4 (by decide)
  have e212 : g171 5 = (.int .i64 0) := E171.facts 5 (by decide)
  have e213 : g171 8 = (.int .i64 0) := E171.facts 8 (by decide)
  obtain ⟨q214, p215, l216, o217⟩ : ∃ q, g171 6 = .pointer (some ⟨q, 0, none⟩) ∧ v116.heap.size ≤ q ∧ OkB v171 q 2 := E171.facts 6 (by decide)
  have h218 : w.heap.size ≤ q214 := Nat.le_trans HB l216
  have n219 : q8 ≠ q214 := by omega
  have n220 : q14 ≠ q214 := by omega
  have n221 : q39 ≠ q214 := by omega
  have n222 : q46 ≠ q214 := by omega
  have n223 : q99 ≠ q214 := by omega
  have n224 : q153 ≠ q214 := by omega
  obtain ⟨t225, x227, A228, m229, c230, e231, b226⟩ := put_info (E171.facts 7 (by decide)) p215 f211.shape
  have f232 : Cz v171 (.agg #[.bool x227, .slice A228 m229 c230]) (fl z u) := f211.at e231.symm
  refine then_normal ?_
  refine wp_seq ?_
  refine wp_seq ?_
  have HB : w.heap.size ≤ v171.heap.size := T172.size
  refine wp_plan_seq [.val (.is (.int .i64 0)), .val (.is (.int .i64 0)), .val (.is (.bool false)), .val (.is (.bool false)), .val (.cz (fl z u)), .val (.cz (fl z u)), .val (.is (.bool true)), .val (.is (.bool false)), .val (.is (.bool false))] [] [] w.heap.size (by kernel_rfl) (by kernel_rfl) trivial HB ?_ ?_
  · exact ⟨fun s v h => does_val rfl rfl (x_move) ((h.same 11 rfl).trans e152),
      fun s v h => does_val rfl rfl (x_move) ((h.same 13 rfl).trans e213),
      fun s v h => does_val rfl rfl (x_neq_int (h.dep 0 rfl) (h.dep 1 rfl)) rfl,
      fun s v h => does_val rfl rfl (x_move) (h.dep 2 rfl),
      fun s v h => does_val rfl (wanted_by (b := false) (want := false) rfl rfl (h.dep 3 rfl)) (x_load_z ((h.same 10 rfl).trans p154) ((h.far q153 b184.lt (by simp)).trans b184)) (f208.mono h.mono),
      fun s v h => does_val rfl (wanted_by (b := false) (want := false) rfl rfl (h.dep 3 rfl)) (x_load_z ((h.same 12 rfl).trans p215) ((h.far q214 b226.lt (by simp)).trans b226)) (f232.mono h.mono),
      fun s v h => does_call rfl (wanted_by (b := false) (want := false) rfl rfl (h.dep 3 rfl)) (x_call2 Try.call12) (eq_k (h.dep 4 rfl) (h.dep 5 rfl) rfl),
      fun s v h => does_val rfl (wanted_by (b := false) (want := false) rfl rfl (h.dep 3 rfl)) (x_not (h.dep 6 rfl)) rfl,
      fun s v h => does_val rfl rfl (x_pick (h.dep 3 rfl)) (h.dep 7 rfl), trivial⟩
  intro g233 ts v233 hts E233
  simp only [fillL, Nat.reduceAdd, List.setIfInBounds_toArray, List.set_cons_zero, List.set_cons_succ] at hts
  subst hts
  have T234 : Below w.heap.size w v233 := T172.trans E233.below
  have l235 : q8 < v171.heap.size := b179.lt
  have l236 : q14 < v171.heap.size := b180.lt
  have l237 : q39 < v171.heap.size := b181.lt
  have l238 : q46 < v171.heap.size := b182.lt
  have l239 : q99 < v171.heap.size := b183.lt
  have l240 : q153 < v171.heap.size := b184.lt
  have l241 : q214 < v171.heap.size := b226.lt
  have b242 : Bx v233 q8 24 #[.bool na0, .slice A0 n0 c0] := (E233.far q8 b179.lt (by simp)).trans b179
  have b243 : Bx v233 q14 24 #[.bool na1, .slice A1 n1 c1] := (E233.far q14 b180.lt (by simp)).trans b180
  have b244 : Bx v233 q39 t54 #[.bool x56, .slice A57 m58 c59] := (E233.far q39 b181.lt (by simp)).trans b181
  have b245 : Bx v233 q46 t62 #[.bool x64, .slice A65 m66 c67] := (E233.far q46 b182.lt (by simp)).trans b182
  have b246 : Bx v233 q99 t108 #[.bool x110, .slice A111 m112 c113] := (E233.far q99 b183.lt (by simp)).trans b183
  have b247 : Bx v233 q153 t163 #[.bool x165, .slice A166 m167 c168] := (E233.far q153 b184.lt (by simp)).trans b184
  have b248 : Bx v233 q214 t225 #[.bool x227, .slice A228 m229 c230] := (E233.far q214 b226.lt (by simp)).trans b226
  have f249 := f185.mono E233.mono
  have f250 := f186.mono E233.mono
  have f251 := f187.mono E233.mono
  have f252 := f188.mono E233.mono
  have f253 := f189.mono E233.mono
  have f254 := f190.mono E233.mono
  have f255 := f191.mono E233.mono
  have f256 := f192.mono E233.mono
  have f257 := f193.mono E233.mono
  have f258 := f194.mono E233.mono
  have f259 := f195.mono E233.mono
  have f260 := f196.mono E233.mono
  have f261 := f197.mono E233.mono
  have f262 := f198.mono E233.mono
  have f263 := f199.mono E233.mono
  have f264 := f200.mono E233.mono
  have f265 := f201.mono E233.mono
  have f266 := f202.mono E233.mono
  have f267 := f203.mono E233.mono
  have f268 := f204.mono E233.mono
  have f269 := f205.mono E233.mono
  have f270 := f206.mono E233.mono
  have f271 := f207.mono E233.mono
  have f272 := f208.mono E233.mono
  have f273 := f209.mono E233.mono
  have f274 := f210.mono E233.mono
  have f275 := f211.mono E233.mono
  have f276 := f232.mono E233.mono
  have e277 : g233 0 = (.int .i64 0) := E233.facts 0 (by decide)
  have e278 : g233 1 = (.int .i64 0) := E233.facts 1 (by decide)
  have e279 : g233 2 = (.bool false) := E233.facts 2 (by decide)
  have e280 : g233 3 = (.bool false) := E233.facts 3 (by decide)
  have f281 : Cz v233 (g233 4) (fl z u) := E233.facts 4 (by decide)
  have f282 : Cz v233 (g233 5) (fl z u) := E233.facts 5 (by decide)
  have e283 : g233 6 = (.bool true) := E233.facts 6 (by decide)
  have e284 : g233 7 = (.bool false) := E233.facts 7 (by decide)
  have e285 : g233 8 = (.bool false) := E233.facts 8 (by decide)
  refine then_normal ?_
  refine wp_cond_false e285 ?_
  refine wp_skip ?_
  refine then_normal ?_
  refine wp_seq ?_
  refine wp_seq ?_
  have HB : w.heap.size ≤ v233.heap.size := T234.size
  refine wp_plan_seq [.val (.az 1048576 u), .val (.is (.int .i64 u.sign)), .val (.is (.bool false))] [] [] w.heap.size (by kernel_rfl) (by kernel_rfl) trivial HB ?_ ?_
  · exact ⟨fun s v h => does_val rfl rfl (x_load_z ((h.same 3 rfl).trans p15) ((h.far q14 b243.lt (by simp)).trans b243)) (f251.mono h.mono),
      fun s v h => does_call rfl rfl (x_call1 Try.call28) (r2sign_k (h.dep 0 rfl) (by omega)),
      fun s v h => does_val rfl rfl (x_eql_int (h.dep 1 rfl) rfl) (congrArg Value.bool d0), trivial⟩
  intro g286 ts v286 hts E286
  simp only [fillL, Nat.reduceAdd, List.setIfInBounds_toArray, List.set_cons_zero, List.set_cons_succ] at hts
  subst hts
  have T287 : Below w.heap.size w v286 := T234.trans E286.below
  have l288 : q8 < v233.heap.size := b242.lt
  have l289 : q14 < v233.heap.size := b243.lt
  have l290 : q39 < v233.heap.size := b244.lt
  have l291 : q46 < v233.heap.size := b245.lt
  have l292 : q99 < v233.heap.size := b246.lt
  have l293 : q153 < v233.heap.size := b247.lt
  have l294 : q214 < v233.heap.size := b248.lt
  have b295 : Bx v286 q8 24 #[.bool na0, .slice A0 n0 c0] := (E286.far q8 b242.lt (by simp)).trans b242
  have b296 : Bx v286 q14 24 #[.bool na1, .slice A1 n1 c1] := (E286.far q14 b243.lt (by simp)).trans b243
  have b297 : Bx v286 q39 t54 #[.bool x56, .slice A57 m58 c59] := (E286.far q39 b244.lt (by simp)).trans b244
  have b298 : Bx v286 q46 t62 #[.bool x64, .slice A65 m66 c67] := (E286.far q46 b245.lt (by simp)).trans b245
  have b299 : Bx v286 q99 t108 #[.bool x110, .slice A111 m112 c113] := (E286.far q99 b246.lt (by simp)).trans b246
  have b300 : Bx v286 q153 t163 #[.bool x165, .slice A166 m167 c168] := (E286.far q153 b247.lt (by simp)).trans b247
  have b301 : Bx v286 q214 t225 #[.bool x227, .slice A228 m229 c230] := (E286.far q214 b248.lt (by simp)).trans b248
  have f302 := f249.mono E286.mono
  have f303 := f250.mono E286.mono
  have f304 := f251.mono E286.mono
  have f305 := f252.mono E286.mono
  have f306 := f253.mono E286.mono
  have f307 := f254.mono E286.mono
  have f308 := f255.mono E286.mono
  have f309 := f256.mono E286.mono
  have f310 := f257.mono E286.mono
  have f311 := f258.mono E286.mono
  have f312 := f259.mono E286.mono
  have f313 := f260.mono E286.mono
  have f314 := f261.mono E286.mono
  have f315 := f262.mono E286.mono
  have f316 := f263.mono E286.mono
  have f317 := f264.mono E286.mono
  have f318 := f265.mono E286.mono
  have f319 := f266.mono E286.mono
  have f320 := f267.mono E286.mono
  have f321 := f268.mono E286.mono
  have f322 := f269.mono E286.mono
  have f323 := f270.mono E286.mono
  have f324 := f271.mono E286.mono
  have f325 := f272.mono E286.mono
  have f326 := f273.mono E286.mono
  have f327 := f274.mono E286.mono
  have f328 := f275.mono E286.mono
  have f329 := f276.mono E286.mono
  have f330 := f281.mono E286.mono
  have f331 := f282.mono E286.mono
  have f332 : Az 1048576 v286 (g286 0) u := E286.facts 0 (by decide)
  have e333 : g286 1 = (.int .i64 u.sign) := E286.facts 1 (by decide)
  have e334 : g286 2 = (.bool false) := E286.facts 2 (by decide)
  refine then_normal ?_
  refine wp_cond_false e334 ?_
  refine wp_skip ?_
  refine then_normal ?_
  refine wp_seq ?_
  have HB : w.heap.size ≤ v286.heap.size := T287.size
  refine wp_plan_seq [.val (.az 1048576 z), .val (.az 1048576 u), .val (.tup2 (.cz (fl z u)) (.cz (md z u))), .val (.tup2 (.cz (fl z u)) (.cz (md z u))), .val (.cz (fl z u)), .val (.cz (md z u)), .new 2 none, .new 2 none, .put 14 84, .put 15 85] [] [] w.heap.size (by kernel_rfl) (by kernel_rfl) trivial HB ?_ ?_
  · exact ⟨fun s v h => does_val rfl rfl (x_load_z ((h.same 2 rfl).trans p9) ((h.far q8 b295.lt (by simp)).trans b295)) (f302.mono h.mono),
      fun s v h => does_val rfl rfl (x_load_z ((h.same 3 rfl).trans p15) ((h.far q14 b296.lt (by simp)).trans b296)) (f304.mono h.mono),
      fun s v h => does_call rfl rfl (x_call2 Try.call29) (r2floor_k (h.dep 0 rfl) (h.dep 1 rfl) (by omega) (by omega) hu),
      fun s v h => does_val rfl rfl (x_move) (h.dep 2 rfl),
      fun s v h => by obtain ⟨r0, r1, e, f0, f1⟩ := tup2_at (h.dep 3 rfl); exact does_val rfl rfl (x_ext e rfl) f0,
      fun s v h => by obtain ⟨r0, r1, e, f0, f1⟩ := tup2_at (h.dep 3 rfl); exact does_val rfl rfl (x_ext e rfl) f1,
      fun s v h => does_new rfl rfl x_alloc_z (okz _ _ _ _) rfl (.inl rfl),
      fun s v h => does_new rfl rfl x_alloc_z (okz _ _ _ _) rfl (.inl rfl),
      fun s v h => by obtain ⟨q, e1, e2, e3⟩ := new_at (h.dep 6 rfl); exact does_put_z rfl rfl e1 (h.dep 4 rfl).shape e3 (Nat.le_trans HB e2),
      fun s v h => by obtain ⟨q, e1, e2, e3⟩ := new_at (h.dep 7 rfl); exact does_put_z rfl rfl e1 (h.dep 5 rfl).shape e3 (Nat.le_trans HB e2), trivial⟩
  intro g335 ts v335 hts E335
  simp only [fillL, Nat.reduceAdd, List.setIfInBounds_toArray, List.set_cons_zero, List.set_cons_succ] at hts
  subst hts
  have T336 : Below w.heap.size w v335 := T287.trans E335.below
  have l337 : q8 < v286.heap.size := b295.lt
  have l338 : q14 < v286.heap.size := b296.lt
  have l339 : q39 < v286.heap.size := b297.lt
  have l340 : q46 < v286.heap.size := b298.lt
  have l341 : q99 < v286.heap.size := b299.lt
  have l342 : q153 < v286.heap.size := b300.lt
  have l343 : q214 < v286.heap.size := b301.lt
  have b344 : Bx v335 q8 24 #[.bool na0, .slice A0 n0 c0] := (E335.far q8 b295.lt (by simp)).trans b295
  have b345 : Bx v335 q14 24 #[.bool na1, .slice A1 n1 c1] := (E335.far q14 b296.lt (by simp)).trans b296
  have b346 : Bx v335 q39 t54 #[.bool x56, .slice A57 m58 c59] := (E335.far q39 b297.lt (by simp)).trans b297
  have b347 : Bx v335 q46 t62 #[.bool x64, .slice A65 m66 c67] := (E335.far q46 b298.lt (by simp)).trans b298
  have b348 : Bx v335 q99 t108 #[.bool x110, .slice A111 m112 c113] := (E335.far q99 b299.lt (by simp)).trans b299
  have b349 : Bx v335 q153 t163 #[.bool x165, .slice A166 m167 c168] := (E335.far q153 b300.lt (by simp)).trans b300
  have b350 : Bx v335 q214 t225 #[.bool x227, .slice A228 m229 c230] := (E335.far q214 b301.lt (by simp)).trans b301
  have f351 := f302.mono E335.mono
  have f352 := f303.mono E335.mono
  have f353 := f304.mono E335.mono
  have f354 := f305.mono E335.mono
  have f355 := f306.mono E335.mono
  have f356 := f307.mono E335.mono
  have f357 := f308.mono E335.mono
  have f358 := f309.mono E335.mono
  have f359 := f310.mono E335.mono
  have f360 := f311.mono E335.mono
  have f361 := f312.mono E335.mono
  have f362 := f313.mono E335.mono
  have f363 := f314.mono E335.mono
  have f364 := f315.mono E335.mono
  have f365 := f316.mono E335.mono
  have f366 := f317.mono E335.mono
  have f367 := f318.mono E335.mono
  have f368 := f319.mono E335.mono
  have f369 := f320.mono E335.mono
  have f370 := f321.mono E335.mono
  have f371 := f322.mono E335.mono
  have f372 := f323.mono E335.mono
  have f373 := f324.mono E335.mono
  have f374 := f325.mono E335.mono
  have f375 := f326.mono E335.mono
  have f376 := f327.mono E335.mono
  have f377 := f328.mono E335.mono
  have f378 := f329.mono E335.mono
  have f379 := f330.mono E335.mono
  have f380 := f331.mono E335.mono
  have f381 := f332.mono E335.mono
  have f382 : Az 1048576 v335 (g335 0) z := E335.facts 0 (by decide)
  have f383 : Az 1048576 v335 (g335 1) u := E335.facts 1 (by decide)
  have f384 : Cz v335 (g335 4) (fl z u) := E335.facts 4 (by decide)
  have f385 : Cz v335 (g335 5) (md z u) := E335.facts 5 (by decide)
  obtain ⟨q386, p387, l388, o389⟩ : ∃ q, g335 6 = .pointer (some ⟨q, 0, none⟩) ∧ v286.heap.size ≤ q ∧ OkB v335 q 2 := E335.facts 6 (by decide)
  have h390 : w.heap.size ≤ q386 := Nat.le_trans HB l388
  have n391 : q8 ≠ q386 := by omega
  have n392 : q14 ≠ q386 := by omega
  have n393 : q39 ≠ q386 := by omega
  have n394 : q46 ≠ q386 := by omega
  have n395 : q99 ≠ q386 := by omega
  have n396 : q153 ≠ q386 := by omega
  have n397 : q214 ≠ q386 := by omega
  obtain ⟨q398, p399, l400, o401⟩ : ∃ q, g335 7 = .pointer (some ⟨q, 0, none⟩) ∧ v286.heap.size ≤ q ∧ OkB v335 q 2 := E335.facts 7 (by decide)
  have h402 : w.heap.size ≤ q398 := Nat.le_trans HB l400
  have n403 : q8 ≠ q398 := by omega
  have n404 : q14 ≠ q398 := by omega
  have n405 : q39 ≠ q398 := by omega
  have n406 : q46 ≠ q398 := by omega
  have n407 : q99 ≠ q398 := by omega
  have n408 : q153 ≠ q398 := by omega
  have n409 : q214 ≠ q398 := by omega
  have n410 : q386 ≠ q398 := apart_ne (E335.apart 6 7 (by decide) (by decide) (by decide) ⟨_, _, rfl⟩ ⟨_, _, rfl⟩) p387 p399
  obtain ⟨t411, x413, A414, m415, c416, e417, b412⟩ := put_info (E335.facts 8 (by decide)) p387 f384.shape
  have f418 : Cz v335 (.agg #[.bool x413, .slice A414 m415 c416]) (fl z u) := f384.at e417.symm
  obtain ⟨t419, x421, A422, m423, c424, e425, b420⟩ := put_info (E335.facts 9 (by decide)) p399 f385.shape
  have f426 : Cz v335 (.agg #[.bool x421, .slice A422 m423 c424]) (md z u) := f385.at e425.symm
  refine then_normal ?_
  refine wp_seq ?_
  have HB : w.heap.size ≤ v335.heap.size := T336.size
  refine wp_plan_any [.val (.is (.int .i64 0)), .val (.is (.bool true)), .val (.is (.bool true)), .val (.is (.int .i64 0)), .val (.is (.bool true)), .val (.is (.bool true)), .val (.is (.bool true)), .val (.cz (fl z u)), .val (.cz (fl z u)), .val (.is (.bool true)), .val (.is (.bool true)), .val (.is (.bool true)), .val (.cz (md z u)), .val (.cz (md z u)), .val (.is (.bool true)), .val (.is (.bool true)), .val (.is (.bool true)), .val (.cz (fl (z + z + u) (u + u))), .val (.az 1048576 z), .val (.az 1048576 u), .val (.cz (fl (2 * z + u) (2 * u))), .val (.is (.bool true)), .val (.is (.bool true)), .val (.is (.bool true))] [] [] w.heap.size (by kernel_rfl) (by kernel_rfl) (by kernel_rfl) trivial HB ?_ ?_
  · exact ⟨fun s v h => does_val rfl rfl (x_move) ((h.same 7 rfl).trans e38),
      fun s v h => does_val rfl rfl (x_eql_err (h.dep 0 rfl) rfl) rfl,
      fun s v h => does_val rfl rfl (x_move) (h.dep 1 rfl),
      fun s v h => does_val rfl (wanted_by (b := true) (want := true) rfl rfl (h.dep 2 rfl)) (x_move) ((h.same 9 rfl).trans e98),
      fun s v h => does_val rfl (wanted_by (b := true) (want := true) rfl rfl (h.dep 2 rfl)) (x_eql_err (h.dep 3 rfl) rfl) rfl,
      fun s v h => does_val rfl rfl (x_pick (h.dep 2 rfl)) (h.dep 4 rfl),
      fun s v h => does_val rfl rfl (x_move) (h.dep 5 rfl),
      fun s v h => does_val rfl (wanted_by (b := true) (want := true) rfl rfl (h.dep 6 rfl)) (x_load_z ((h.same 5 rfl).trans p40) ((h.far q39 b346.lt (by simp)).trans b346)) (f361.mono ((Mono.drew _).trans h.mono)),
      fun s v h => does_val rfl (wanted_by (b := true) (want := true) rfl rfl (h.dep 6 rfl)) (x_load_z ((h.same 14 rfl).trans p387) ((h.far q386 b412.lt (by simp)).trans b412)) (f418.mono ((Mono.drew _).trans h.mono)),
      fun s v h => does_call rfl (wanted_by (b := true) (want := true) rfl rfl (h.dep 6 rfl)) (x_call2 Try.call12) (eq_k (h.dep 7 rfl) (h.dep 8 rfl) rfl),
      fun s v h => does_val rfl rfl (x_pick (h.dep 6 rfl)) (h.dep 9 rfl),
      fun s v h => does_val rfl rfl (x_move) (h.dep 10 rfl),
      fun s v h => does_val rfl (wanted_by (b := true) (want := true) rfl rfl (h.dep 11 rfl)) (x_load_z ((h.same 6 rfl).trans p47) ((h.far q46 b347.lt (by simp)).trans b347)) (f362.mono ((Mono.drew _).trans h.mono)),
      fun s v h => does_val rfl (wanted_by (b := true) (want := true) rfl rfl (h.dep 11 rfl)) (x_load_z ((h.same 15 rfl).trans p399) ((h.far q398 b420.lt (by simp)).trans b420)) (f426.mono ((Mono.drew _).trans h.mono)),
      fun s v h => does_call rfl (wanted_by (b := true) (want := true) rfl rfl (h.dep 11 rfl)) (x_call2 Try.call12) (eq_k (h.dep 12 rfl) (h.dep 13 rfl) rfl),
      fun s v h => does_val rfl rfl (x_pick (h.dep 11 rfl)) (h.dep 14 rfl),
      fun s v h => does_val rfl rfl (x_move) (h.dep 15 rfl),
      fun s v h => does_val rfl (wanted_by (b := true) (want := true) rfl rfl (h.dep 16 rfl)) (x_load_z ((h.same 8 rfl).trans p100) ((h.far q99 b348.lt (by simp)).trans b348)) (f368.mono ((Mono.drew _).trans h.mono)),
      fun s v h => does_val rfl (wanted_by (b := true) (want := true) rfl rfl (h.dep 16 rfl)) (x_load_z ((h.same 2 rfl).trans p9) ((h.far q8 b344.lt (by simp)).trans b344)) (f351.mono ((Mono.drew _).trans h.mono)),
      fun s v h => does_val rfl (wanted_by (b := true) (want := true) rfl rfl (h.dep 16 rfl)) (x_load_z ((h.same 3 rfl).trans p15) ((h.far q14 b345.lt (by simp)).trans b345)) (f353.mono ((Mono.drew _).trans h.mono)),
      fun s v h => does_call rfl (wanted_by (b := true) (want := true) rfl rfl (h.dep 16 rfl)) (x_call2 Try.call30) (r2near_k (h.dep 18 rfl) (h.dep 19 rfl) (by omega) (by omega) (by omega)),
      fun s v h => does_call rfl (wanted_by (b := true) (want := true) rfl rfl (h.dep 16 rfl)) (x_call2 Try.call12) (eq_k (h.dep 17 rfl) (h.dep 20 rfl) (by rw [show z + z + u = 2 * z + u by omega, show u + u = 2 * u by omega])),
      fun s v h => does_val rfl rfl (x_pick (h.dep 16 rfl)) (h.dep 21 rfl),
      fun s v h => does_val rfl rfl (x_assign) (h.dep 22 rfl), trivial⟩
  intro g427 ts v427 hts E427
  simp only [fillL, Nat.reduceAdd, List.setIfInBounds_toArray, List.set_cons_zero, List.set_cons_succ] at hts
  subst hts
  have T428 : Below w.heap.size w v427 := (below_toDrew T336).trans E427.below
  have l429 : q8 < v335.heap.size := b344.lt
  have l430 : q14 < v335.heap.size := b345.lt
  have l431 : q39 < v335.heap.size := b346.lt
  have l432 : q46 < v335.heap.size := b347.lt
  have l433 : q99 < v335.heap.size := b348.lt
  have l434 : q153 < v335.heap.size := b349.lt
  have l435 : q214 < v335.heap.size := b350.lt
  have l436 : q386 < v335.heap.size := b412.lt
  have l437 : q398 < v335.heap.size := b420.lt
  have b438 : Bx v427 q8 24 #[.bool na0, .slice A0 n0 c0] := (E427.far q8 b344.lt (by simp)).trans b344
  have b439 : Bx v427 q14 24 #[.bool na1, .slice A1 n1 c1] := (E427.far q14 b345.lt (by simp)).trans b345
  have b440 : Bx v427 q39 t54 #[.bool x56, .slice A57 m58 c59] := (E427.far q39 b346.lt (by simp)).trans b346
  have b441 : Bx v427 q46 t62 #[.bool x64, .slice A65 m66 c67] := (E427.far q46 b347.lt (by simp)).trans b347
  have b442 : Bx v427 q99 t108 #[.bool x110, .slice A111 m112 c113] := (E427.far q99 b348.lt (by simp)).trans b348
  have b443 : Bx v427 q153 t163 #[.bool x165, .slice A166 m167 c168] := (E427.far q153 b349.lt (by simp)).trans b349
  have b444 : Bx v427 q214 t225 #[.bool x227, .slice A228 m229 c230] := (E427.far q214 b350.lt (by simp)).trans b350
  have b445 : Bx v427 q386 t411 #[.bool x413, .slice A414 m415 c416] := (E427.far q386 b412.lt (by simp)).trans b412
  have b446 : Bx v427 q398 t419 #[.bool x421, .slice A422 m423 c424] := (E427.far q398 b420.lt (by simp)).trans b420
  have f447 := f351.mono ((Mono.drew _).trans E427.mono)
  have f448 := f352.mono ((Mono.drew _).trans E427.mono)
  have f449 := f353.mono ((Mono.drew _).trans E427.mono)
  have f450 := f354.mono ((Mono.drew _).trans E427.mono)
  have f451 := f355.mono ((Mono.drew _).trans E427.mono)
  have f452 := f356.mono ((Mono.drew _).trans E427.mono)
  have f453 := f357.mono ((Mono.drew _).trans E427.mono)
  have f454 := f358.mono ((Mono.drew _).trans E427.mono)
  have f455 := f359.mono ((Mono.drew _).trans E427.mono)
  have f456 := f360.mono ((Mono.drew _).trans E427.mono)
  have f457 := f361.mono ((Mono.drew _).trans E427.mono)
  have f458 := f362.mono ((Mono.drew _).trans E427.mono)
  have f459 := f363.mono ((Mono.drew _).trans E427.mono)
  have f460 := f364.mono ((Mono.drew _).trans E427.mono)
  have f461 := f365.mono ((Mono.drew _).trans E427.mono)
  have f462 := f366.mono ((Mono.drew _).trans E427.mono)
  have f463 := f367.mono ((Mono.drew _).trans E427.mono)
  have f464 := f368.mono ((Mono.drew _).trans E427.mono)
  have f465 := f369.mono ((Mono.drew _).trans E427.mono)
  have f466 := f370.mono ((Mono.drew _).trans E427.mono)
  have f467 := f371.mono ((Mono.drew _).trans E427.mono)
  have f468 := f372.mono ((Mono.drew _).trans E427.mono)
  have f469 := f373.mono ((Mono.drew _).trans E427.mono)
  have f470 := f374.mono ((Mono.drew _).trans E427.mono)
  have f471 := f375.mono ((Mono.drew _).trans E427.mono)
  have f472 := f376.mono ((Mono.drew _).trans E427.mono)
  have f473 := f377.mono ((Mono.drew _).trans E427.mono)
  have f474 := f378.mono ((Mono.drew _).trans E427.mono)
  have f475 := f379.mono ((Mono.drew _).trans E427.mono)
  have f476 := f380.mono ((Mono.drew _).trans E427.mono)
  have f477 := f381.mono ((Mono.drew _).trans E427.mono)
  have f478 := f382.mono ((Mono.drew _).trans E427.mono)
  have f479 := f383.mono ((Mono.drew _).trans E427.mono)
  have f480 := f384.mono ((Mono.drew _).trans E427.mono)
  have f481 := f385.mono ((Mono.drew _).trans E427.mono)
  have f482 := f418.mono ((Mono.drew _).trans E427.mono)
  have f483 := f426.mono ((Mono.drew _).trans E427.mono)
  have e484 : g427 0 = (.int .i64 0) := E427.facts 0 (by decide)
  have e485 : g427 1 = (.bool true) := E427.facts 1 (by decide)
  have e486 : g427 2 = (.bool true) := E427.facts 2 (by decide)
  have e487 : g427 3 = (.int .i64 0) := E427.facts 3 (by decide)
  have e488 : g427 4 = (.bool true) := E427.facts 4 (by decide)
  have e489 : g427 5 = (.bool true) := E427.facts 5 (by decide)
  have e490 : g427 6 = (.bool true) := E427.facts 6 (by decide)
  have f491 : Cz v427 (g427 7) (fl z u) := E427.facts 7 (by decide)
  have f492 : Cz v427 (g427 8) (fl z u) := E427.facts 8 (by decide)
  have e493 : g427 9 = (.bool true) := E427.facts 9 (by decide)
  have e494 : g427 10 = (.bool true) := E427.facts 10 (by decide)
  have e495 : g427 11 = (.bool true) := E427.facts 11 (by decide)
  have f496 : Cz v427 (g427 12) (md z u) := E427.facts 12 (by decide)
  have f497 : Cz v427 (g427 13) (md z u) := E427.facts 13 (by decide)
  have e498 : g427 14 = (.bool true) := E427.facts 14 (by decide)
  have e499 : g427 15 = (.bool true) := E427.facts 15 (by decide)
  have e500 : g427 16 = (.bool true) := E427.facts 16 (by decide)
  have f501 : Cz v427 (g427 17) (fl (z + z + u) (u + u)) := E427.facts 17 (by decide)
  have f502 : Az 1048576 v427 (g427 18) z := E427.facts 18 (by decide)
  have f503 : Az 1048576 v427 (g427 19) u := E427.facts 19 (by decide)
  have f504 : Cz v427 (g427 20) (fl (2 * z + u) (2 * u)) := E427.facts 20 (by decide)
  have e505 : g427 21 = (.bool true) := E427.facts 21 (by decide)
  have e506 : g427 22 = (.bool true) := E427.facts 22 (by decide)
  have e507 : g427 23 = (.bool true) := E427.facts 23 (by decide)
  refine then_normal ?_
  refine wp_ret ?_
  exact bodyPost_ret (results_tmp (t := 4) rfl _ _ _) rfl ⟨_, rfl, e507, T428⟩

set_option maxRecDepth 8000 in
theorem zq_b {w : World} {x : Value} {z : Int} (h0 : Az 1048576 w x z) {y : Value} {u : Int} (h1 : Az 1048576 w y u) (hu : u ≠ 0) (d0 : (u.sign == 0) = false) (d1 : ((md z u).sign == 0) = false)  : Calls Try.prog 5 #[x, y] w (Ret (.is (.bool true)) w) := by
  have la0 := h0.len
  obtain ⟨na0, A0, n0, c0, M0, rfl, hm0, hz0⟩ := h0.parts
  have la1 := h1.len
  obtain ⟨na1, A1, n1, c1, M1, rfl, hm1, hz1⟩ := h1.parts
  have T0 : Below w.heap.size w w := Below.refl _ _
  go_enter Try.func5, Try.ntmps5
  refine wp_seq ?_
  have HB : w.heap.size ≤ w.heap.size := T0.size
  refine wp_plan_seq [.new 2 (some (24, #[.bool na0, .slice A0 n0 c0])), .new 2 (some (24, #[.bool na1, .slice A1 n1 c1])), .val (.is (.bool false))] [] [] w.heap.size (by kernel_rfl) (by kernel_rfl) trivial HB ?_ ?_
  · exact ⟨fun s v h => does_new rfl rfl (x_box_z (h.same 0 rfl)) (okz _ _ _ _) rfl (.inr rfl),
      fun s v h => does_new rfl rfl (x_box_z (h.same 1 rfl)) (okz _ _ _ _) rfl (.inr rfl),
      fun s v h => does_val rfl rfl (x_assign) rfl, trivial⟩
  intro g508 ts v508 hts E508
  simp only [fillL, Nat.reduceAdd, List.setIfInBounds_toArray, List.set_cons_zero, List.set_cons_succ] at hts
  subst hts
  have T509 : Below w.heap.size w v508 := T0.trans E508.below
  have f510 := h0.mono E508.mono
  have f511 := hm0.mono E508.mono
  have f512 := h1.mono E508.mono
  have f513 := hm1.mono E508.mono
  have e514 : g508 2 = (.bool false) := E508.facts 2 (by decide)
  obtain ⟨q515, p516, l517, o518, b519⟩ : ∃ q, g508 0 = .pointer (some ⟨q, 0, none⟩) ∧ w.heap.size ≤ q ∧ OkB v508 q 2 ∧ Bx v508 q 24 #[.bool na0, .slice A0 n0 c0] := E508.facts 0 (by decide)
  have h520 : w.heap.size ≤ q515 := Nat.le_trans HB l517
  obtain ⟨q521, p522, l523, o524, b525⟩ : ∃ q, g508 1 = .pointer (some ⟨q, 0, none⟩) ∧ w.heap.size ≤ q ∧ OkB v508 q 2 ∧ Bx v508 q 24 #[.bool na1, .slice A1 n1 c1] := E508.facts 1 (by decide)
  have h526 : w.heap.size ≤ q521 := Nat.le_trans HB l523
  have n527 : q515 ≠ q521 := apart_ne (E508.apart 0 1 (by decide) (by decide) (by decide) ⟨_, _, rfl⟩ ⟨_, _, rfl⟩) p516 p522
  refine then_normal ?_
  refine wp_seq ?_
  have HB : w.heap.size ≤ v508.heap.size := T509.size
  refine wp_plan_any [.val (.az 1048576 z), .val (.az 1048576 z), .val (.az 1048576 u), .val (.az 1048576 u), .val (.tup3 (.cz (fl z u)) (.cz (md z u)) (.is (.int .i64 0))), .val (.tup3 (.cz (fl z u)) (.cz (md z u)) (.is (.int .i64 0))), .val (.cz (fl z u)), .val (.cz (md z u)), .val (.is (.int .i64 0)), .new 2 none, .new 2 none, .put 5 22, .put 6 23, .val (.is (.int .i64 0))] [] [] w.heap.size (by kernel_rfl) (by kernel_rfl) (by kernel_rfl) trivial HB ?_ ?_
  · exact ⟨fun s v h => does_val rfl rfl (x_load_z ((h.same 2 rfl).trans p516) ((h.far q515 b519.lt (by simp)).trans b519)) (f510.mono ((Mono.drew _).trans h.mono)),
      fun s v h => does_call rfl rfl (x_call1 Try.call18) (own_k (h.dep 0 rfl) (by omega)),
      fun s v h => does_val rfl rfl (x_load_z ((h.same 3 rfl).trans p522) ((h.far q521 b525.lt (by simp)).trans b525)) (f512.mono ((Mono.drew _).trans h.mono)),
      fun s v h => does_call rfl rfl (x_call1 Try.call18) (own_k (h.dep 2 rfl) (by omega)),
      fun s v h => does_call rfl rfl (x_call2 Try.call24) (zfloor_k (h.dep 1 rfl) (h.dep 3 rfl) (by omega) (by omega) hu),
      fun s v h => does_val rfl rfl (x_move) (h.dep 4 rfl),
      fun s v h => by obtain ⟨r0, r1, r2, e, f0, f1, f2⟩ := tup3_at (h.dep 5 rfl); exact does_val rfl rfl (x_ext e rfl) f0,
      fun s v h => by obtain ⟨r0, r1, r2, e, f0, f1, f2⟩ := tup3_at (h.dep 5 rfl); exact does_val rfl rfl (x_ext e rfl) f1,
      fun s v h => by obtain ⟨r0, r1, r2, e, f0, f1, f2⟩ := tup3_at (h.dep 5 rfl); exact does_val rfl rfl (x_ext e rfl) f2,
      fun s v h => does_new rfl rfl x_alloc_z (okz _ _ _ _) rfl (.inl rfl),
      fun s v h => does_new rfl rfl x_alloc_z (okz _ _ _ _) rfl (.inl rfl),
      fun s v h => by obtain ⟨q, e1, e2, e3⟩ := new_at (h.dep 9 rfl); exact does_put_z rfl rfl e1 (h.dep 6 rfl).shape e3 (Nat.le_trans HB e2),
      fun s v h => by obtain ⟨q, e1, e2, e3⟩ := new_at (h.dep 10 rfl); exact does_put_z rfl rfl e1 (h.dep 7 rfl).shape e3 (Nat.le_trans HB e2),
      fun s v h => does_val rfl rfl (x_assign) (h.dep 8 rfl), trivial⟩
  intro g528 ts v528 hts E528
  simp only [fillL, Nat.reduceAdd, List.setIfInBounds_toArray, List.set_cons_zero, List.set_cons_succ] at hts
  subst hts
  have T529 : Below w.heap.size w v528 := (below_toDrew T509).trans E528.below
  have l530 : q515 < v508.heap.size := b519.lt
  have l531 : q521 < v508.heap.size := b525.lt
  have b532 : Bx v528 q515 24 #[.bool na0, .slice A0 n0 c0] := (E528.far q515 b519.lt (by simp)).trans b519
  have b533 : Bx v528 q521 24 #[.bool na1, .slice A1 n1 c1] := (E528.far q521 b525.lt (by simp)).trans b525
  have f534 := f510.mono ((Mono.drew _).trans E528.mono)
  have f535 := f511.mono ((Mono.drew _).trans E528.mono)
  have f536 := f512.mono ((Mono.drew _).trans E528.mono)
  have f537 := f513.mono ((Mono.drew _).trans E528.mono)
  have f538 : Az 1048576 v528 (g528 0) z := E528.facts 0 (by decide)
  have f539 : Az 1048576 v528 (g528 1) z := E528.facts 1 (by decide)
  have f540 : Az 1048576 v528 (g528 2) u := E528.facts 2 (by decide)
  have f541 : Az 1048576 v528 (g528 3) u := E528.facts 3 (by decide)
  have f542 : Cz v528 (g528 6) (fl z u) := E528.facts 6 (by decide)
  have f543 : Cz v528 (g528 7) (md z u) := E528.facts 7 (by decide)
  have e544 : g528 8 = (.int .i64 0) := E528.facts 8 (by decide)
  have e545 : g528 13 = (.int .i64 0) := E528.facts 13 (by decide)
  obtain ⟨q546, p547, l548, o549⟩ : ∃ q, g528 9 = .pointer (some ⟨q, 0, none⟩) ∧ v508.heap.size ≤ q ∧ OkB v528 q 2 := E528.facts 9 (by decide)
  have h550 : w.heap.size ≤ q546 := Nat.le_trans HB l548
  have n551 : q515 ≠ q546 := by omega
  have n552 : q521 ≠ q546 := by omega
  obtain ⟨q553, p554, l555, o556⟩ : ∃ q, g528 10 = .pointer (some ⟨q, 0, none⟩) ∧ v508.heap.size ≤ q ∧ OkB v528 q 2 := E528.facts 10 (by decide)
  have h557 : w.heap.size ≤ q553 := Nat.le_trans HB l555
  have n558 : q515 ≠ q553 := by omega
  have n559 : q521 ≠ q553 := by omega
  have n560 : q546 ≠ q553 := apart_ne (E528.apart 9 10 (by decide) (by decide) (by decide) ⟨_, _, rfl⟩ ⟨_, _, rfl⟩) p547 p554
  obtain ⟨t561, x563, A564, m565, c566, e567, b562⟩ := put_info (E528.facts 11 (by decide)) p547 f542.shape
  have f568 : Cz v528 (.agg #[.bool x563, .slice A564 m565 c566]) (fl z u) := f542.at e567.symm
  obtain ⟨t569, x571, A572, m573, c574, e575, b570⟩ := put_info (E528.facts 12 (by decide)) p554 f543.shape
  have f576 : Cz v528 (.agg #[.bool x571, .slice A572 m573 c574]) (md z u) := f543.at e575.symm
  refine then_normal ?_
  refine wp_seq ?_
  have HB : w.heap.size ≤ v528.heap.size := T529.size
  refine wp_plan_any [.val (.az 1048576 z), .val (.az 1048576 z), .val (.az 1048576 u), .val (.az 1048576 u), .val (.tup2 (.cz (fl (z + z + u) (u + u))) (.is (.int .i64 0))), .val (.tup2 (.cz (fl (z + z + u) (u + u))) (.is (.int .i64 0))), .val (.cz (fl (z + z + u) (u + u))), .val (.is (.int .i64 0)), .new 2 none, .put 8 31, .val (.is (.int .i64 0))] [] [] w.heap.size (by kernel_rfl) (by kernel_rfl) (by kernel_rfl) trivial HB ?_ ?_
  · exact ⟨fun s v h => does_val rfl rfl (x_load_z ((h.same 2 rfl).trans p516) ((h.far q515 b532.lt (by simp)).trans b532)) (f534.mono ((Mono.drew _).trans h.mono)),
      fun s v h => does_call rfl rfl (x_call1 Try.call18) (own_k (h.dep 0 rfl) (by omega)),
      fun s v h => does_val rfl rfl (x_load_z ((h.same 3 rfl).trans p522) ((h.far q521 b533.lt (by simp)).trans b533)) (f536.mono ((Mono.drew _).trans h.mono)),
      fun s v h => does_call rfl rfl (x_call1 Try.call18) (own_k (h.dep 2 rfl) (by omega)),
      fun s v h => does_call rfl rfl (x_call2 Try.call25) (znear_k (h.dep 1 rfl) (h.dep 3 rfl) (by omega) (by omega) (by omega)),
      fun s v h => does_val rfl rfl (x_move) (h.dep 4 rfl),
      fun s v h => by obtain ⟨r0, r1, e, f0, f1⟩ := tup2_at (h.dep 5 rfl); exact does_val rfl rfl (x_ext e rfl) f0,
      fun s v h => by obtain ⟨r0, r1, e, f0, f1⟩ := tup2_at (h.dep 5 rfl); exact does_val rfl rfl (x_ext e rfl) f1,
      fun s v h => does_new rfl rfl x_alloc_z (okz _ _ _ _) rfl (.inl rfl),
      fun s v h => by obtain ⟨q, e1, e2, e3⟩ := new_at (h.dep 8 rfl); exact does_put_z rfl rfl e1 (h.dep 6 rfl).shape e3 (Nat.le_trans HB e2),
      fun s v h => does_val rfl rfl (x_assign) (h.dep 7 rfl), trivial⟩
  intro g577 ts v577 hts E577
  simp only [fillL, Nat.reduceAdd, List.setIfInBounds_toArray, List.set_cons_zero, List.set_cons_succ] at hts
  subst hts
  have T578 : Below w.heap.size w v577 := (below_toDrew T529).trans E577.below
  have l579 : q515 < v528.heap.size := b532.lt
  have l580 : q521 < v528.heap.size := b533.lt
  have l581 : q546 < v528.heap.size := b562.lt
  have l582 : q553 < v528.heap.size := b570.lt
  have b583 : Bx v577 q515 24 #[.bool na0, .slice A0 n0 c0] := (E577.far q515 b532.lt (by simp)).trans b532
  have b584 : Bx v577 q521 24 #[.bool na1, .slice A1 n1 c1] := (E577.far q521 b533.lt (by simp)).trans b533
  have b585 : Bx v577 q546 t561 #[.bool x563, .slice A564 m565 c566] := (E577.far q546 b562.lt (by simp)).trans b562
  have b586 : Bx v577 q553 t569 #[.bool x571, .slice A572 m573 c574] := (E577.far q553 b570.lt (by simp)).trans b570
  have f587 := f534.mono ((Mono.drew _).trans E577.mono)
  have f588 := f535.mono ((Mono.drew _).trans E577.mono)
  have f589 := f536.mono ((Mono.drew _).trans E577.mono)
  have f590 := f537.mono ((Mono.drew _).trans E577.mono)
  have f591 := f538.mono ((Mono.drew _).trans E577.mono)
  have f592 := f539.mono ((Mono.drew _).trans E577.mono)
  have f593 := f540.mono ((Mono.drew _).trans E577.mono)
  have f594 := f541.mono ((Mono.drew _).trans E577.mono)
  have f595 := f542.mono ((Mono.drew _).trans E577.mono)
  have f596 := f543.mono ((Mono.drew _).trans E577.mono)
  have f597 := f568.mono ((Mono.drew _).trans E577.mono)
  have f598 := f576.mono ((Mono.drew _).trans E577.mono)
  have f599 : Az 1048576 v577 (g577 0) z := E577.facts 0 (by decide)
  have f600 : Az 1048576 v577 (g577 1) z := E577.facts 1 (by decide)
  have f601 : Az 1048576 v577 (g577 2) u := E577.facts 2 (by decide)
  have f602 : Az 1048576 v577 (g577 3) u := E577.facts 3 (by decide)
  have f603 : Cz v577 (g577 6) (fl (z + z + u) (u + u)) := E577.facts 6 (by decide)
  have e604 : g577 7 = (.int .i64 0) := E577.facts 7 (by decide)
  have e605 : g577 10 = (.int .i64 0) := E577.facts 10 (by decide)
  obtain ⟨q606, p607, l608, o609⟩ : ∃ q, g577 8 = .pointer (some ⟨q, 0, none⟩) ∧ v528.heap.size ≤ q ∧ OkB v577 q 2 := E577.facts 8 (by decide)
  have h610 : w.heap.size ≤ q606 := Nat.le_trans HB l608
  have n611 : q515 ≠ q606 := by omega
  have n612 : q521 ≠ q606 := by omega
  have n613 : q546 ≠ q606 := by omega
  have n614 : q553 ≠ q606 := by omega
  obtain ⟨t615, x617, A618, m619, c620, e621, b616⟩ := put_info (E577.facts 9 (by decide)) p607 f603.shape
  have f622 : Cz v577 (.agg #[.bool x617, .slice A618 m619 c620]) (fl (z + z + u) (u + u)) := f603.at e621.symm
  refine then_normal ?_
  refine wp_seq ?_
  have HB : w.heap.size ≤ v577.heap.size := T578.size
  refine wp_plan_any [.val (.az 1048576 z), .val (.az 1048576 z), .val (.az 1048576 u), .val (.az 1048576 u), .val (.tup2 (.cz 0) (.is (.int .i64 20))), .val (.tup2 (.cz 0) (.is (.int .i64 20))), .val (.cz 0), .val (.is (.int .i64 20)), .new 2 none, .put 10 39, .val (.is (.int .i64 20))] [] [] w.heap.size (by kernel_rfl) (by kernel_rfl) (by kernel_rfl) trivial HB ?_ ?_
  · exact ⟨fun s v h => does_val rfl rfl (x_load_z ((h.same 2 rfl).trans p516) ((h.far q515 b583.lt (by simp)).trans b583)) (f587.mono ((Mono.drew _).trans h.mono)),
      fun s v h => does_call rfl rfl (x_call1 Try.call18) (own_k (h.dep 0 rfl) (by omega)),
      fun s v h => does_val rfl rfl (x_load_z ((h.same 3 rfl).trans p522) ((h.far q521 b584.lt (by simp)).trans b584)) (f589.mono ((Mono.drew _).trans h.mono)),
      fun s v h => does_call rfl rfl (x_call1 Try.call18) (own_k (h.dep 2 rfl) (by omega)),
      fun s v h => does_call rfl rfl (x_call2 Try.call26) (zexact_b (h.dep 1 rfl) (h.dep 3 rfl) (by omega) (by omega) hu d1),
      fun s v h => does_val rfl rfl (x_move) (h.dep 4 rfl),
      fun s v h => by obtain ⟨r0, r1, e, f0, f1⟩ := tup2_at (h.dep 5 rfl); exact does_val rfl rfl (x_ext e rfl) f0,
      fun s v h => by obtain ⟨r0, r1, e, f0, f1⟩ := tup2_at (h.dep 5 rfl); exact does_val rfl rfl (x_ext e rfl) f1,
      fun s v h => does_new rfl rfl x_alloc_z (okz _ _ _ _) rfl (.inl rfl),
      fun s v h => by obtain ⟨q, e1, e2, e3⟩ := new_at (h.dep 8 rfl); exact does_put_z rfl rfl e1 (h.dep 6 rfl).shape e3 (Nat.le_trans HB e2),
      fun s v h => does_val rfl rfl (x_assign) (h.dep 7 rfl), trivial⟩
  intro g623 ts v623 hts E623
  simp only [fillL, Nat.reduceAdd, List.setIfInBounds_toArray, List.set_cons_zero, List.set_cons_succ] at hts
  subst hts
  have T624 : Below w.heap.size w v623 := (below_toDrew T578).trans E623.below
  have l625 : q515 < v577.heap.size := b583.lt
  have l626 : q521 < v577.heap.size := b584.lt
  have l627 : q546 < v577.heap.size := b585.lt
  have l628 : q553 < v577.heap.size := b586.lt
  have l629 : q606 < v577.heap.size := b616.lt
  have b630 : Bx v623 q515 24 #[.bool na0, .slice A0 n0 c0] := (E623.far q515 b583.lt (by simp)).trans b583
  have b631 : Bx v623 q521 24 #[.bool na1, .slice A1 n1 c1] := (E623.far q521 b584.lt (by simp)).trans b584
  have b632 : Bx v623 q546 t561 #[.bool x563, .slice A564 m565 c566] := (E623.far q546 b585.lt (by simp)).trans b585
  have b633 : Bx v623 q553 t569 #[.bool x571, .slice A572 m573 c574] := (E623.far q553 b586.lt (by simp)).trans b586
  have b634 : Bx v623 q606 t615 #[.bool x617, .slice A618 m619 c620] := (E623.far q606 b616.lt (by simp)).trans b616
  have f635 := f587.mono ((Mono.drew _).trans E623.mono)
  have f636 := f588.mono ((Mono.drew _).trans E623.mono)
  have f637 := f589.mono ((Mono.drew _).trans E623.mono)
  have f638 := f590.mono ((Mono.drew _).trans E623.mono)
  have f639 := f591.mono ((Mono.drew _).trans E623.mono)
  have f640 := f592.mono ((Mono.drew _).trans E623.mono)
  have f641 := f593.mono ((Mono.drew _).trans E623.mono)
  have f642 := f594.mono ((Mono.drew _).trans E623.mono)
  have f643 := f595.mono ((Mono.drew _).trans E623.mono)
  have f644 := f596.mono ((Mono.drew _).trans E623.mono)
  have f645 := f597.mono ((Mono.drew _).trans E623.mono)
  have f646 := f598.mono ((Mono.drew _).trans E623.mono)
  have f647 := f599.mono ((Mono.drew _).trans E623.mono)
  have f648 := f600.mono ((Mono.drew _).trans E623.mono)
  have f649 := f601.mono ((Mono.drew _).trans E623.mono)
  have f650 := f602.mono ((Mono.drew _).trans E623.mono)
  have f651 := f603.mono ((Mono.drew _).trans E623.mono)
  have f652 := f622.mono ((Mono.drew _).trans E623.mono)
  have f653 : Az 1048576 v623 (g623 0) z := E623.facts 0 (by decide)
  have f654 : Az 1048576 v623 (g623 1) z := E623.facts 1 (by decide)
  have f655 : Az 1048576 v623 (g623 2) u := E623.facts 2 (by decide)
  have f656 : Az 1048576 v623 (g623 3) u := E623.facts 3 (by decide)
  have f657 : Cz v623 (g623 6) 0 := E623.facts 6 (by decide)
  have e658 : g623 7 = (.int .i64 20) := E623.facts 7 (by decide)
  have e659 : g623 10 = (.int .i64 20) := E623.facts 10 (by decide)
  obtain ⟨q660, p661, l662, o663⟩ : ∃ q, g623 8 = .pointer (some ⟨q, 0, none⟩) ∧ v577.heap.size ≤ q ∧ OkB v623 q 2 := E623.facts 8 (by decide)
  have h664 : w.heap.size ≤ q660 := Nat.le_trans HB l662
  have n665 : q515 ≠ q660 := by omega
  have n666 : q521 ≠ q660 := by omega
  have n667 : q546 ≠ q660 := by omega
  have n668 : q553 ≠ q660 := by omega
  have n669 : q606 ≠ q660 := by omega
  obtain ⟨t670, x672, A673, m674, c675, e676, b671⟩ := put_info (E623.facts 9 (by decide)) p661 f657.shape
  have f677 : Cz v623 (.agg #[.bool x672, .slice A673 m674 c675]) 0 := f657.at e676.symm
  refine then_normal ?_
  refine wp_seq ?_
  have HB : w.heap.size ≤ v623.heap.size := T624.size
  refine wp_plan_seq [.val (.az 1048576 z), .val (.az 1048576 u), .val (.tup2 (.cz 0) (.is (.int .i64 20))), .val (.tup2 (.cz 0) (.is (.int .i64 20))), .val (.cz 0), .val (.is (.int .i64 20)), .new 2 none, .put 12 45, .val (.is (.int .i64 20))] [] [] w.heap.size (by kernel_rfl) (by kernel_rfl) trivial HB ?_ ?_
  · exact ⟨fun s v h => does_val rfl rfl (x_load_z ((h.same 2 rfl).trans p516) ((h.far q515 b630.lt (by simp)).trans b630)) (f635.mono h.mono),
      fun s v h => does_val rfl rfl (x_load_z ((h.same 3 rfl).trans p522) ((h.far q521 b631.lt (by simp)).trans b631)) (f637.mono h.mono),
      fun s v h => does_call rfl rfl (x_call2 Try.call27) (r2exact_b (h.dep 0 rfl) (h.dep 1 rfl) (by omega) (by omega) hu d0 d1),
      fun s v h => does_val rfl rfl (x_move) (h.dep 2 rfl),
      fun s v h => by obtain ⟨r0, r1, e, f0, f1⟩ := tup2_at (h.dep 3 rfl); exact does_val rfl rfl (x_ext e rfl) f0,
      fun s v h => by obtain ⟨r0, r1, e, f0, f1⟩ := tup2_at (h.dep 3 rfl); exact does_val rfl rfl (x_ext e rfl) f1,
      fun s v h => does_new rfl rfl x_alloc_z (okz _ _ _ _) rfl (.inl rfl),
      fun s v h => by obtain ⟨q, e1, e2, e3⟩ := new_at (h.dep 6 rfl); exact does_put_z rfl rfl e1 (h.dep 4 rfl).shape e3 (Nat.le_trans HB e2),
      fun s v h => does_val rfl rfl (x_assign) (h.dep 5 rfl), trivial⟩
  intro g678 ts v678 hts E678
  simp only [fillL, Nat.reduceAdd, List.setIfInBounds_toArray, List.set_cons_zero, List.set_cons_succ] at hts
  subst hts
  have T679 : Below w.heap.size w v678 := T624.trans E678.below
  have l680 : q515 < v623.heap.size := b630.lt
  have l681 : q521 < v623.heap.size := b631.lt
  have l682 : q546 < v623.heap.size := b632.lt
  have l683 : q553 < v623.heap.size := b633.lt
  have l684 : q606 < v623.heap.size := b634.lt
  have l685 : q660 < v623.heap.size := b671.lt
  have b686 : Bx v678 q515 24 #[.bool na0, .slice A0 n0 c0] := (E678.far q515 b630.lt (by simp)).trans b630
  have b687 : Bx v678 q521 24 #[.bool na1, .slice A1 n1 c1] := (E678.far q521 b631.lt (by simp)).trans b631
  have b688 : Bx v678 q546 t561 #[.bool x563, .slice A564 m565 c566] := (E678.far q546 b632.lt (by simp)).trans b632
  have b689 : Bx v678 q553 t569 #[.bool x571, .slice A572 m573 c574] := (E678.far q553 b633.lt (by simp)).trans b633
  have b690 : Bx v678 q606 t615 #[.bool x617, .slice A618 m619 c620] := (E678.far q606 b634.lt (by simp)).trans b634
  have b691 : Bx v678 q660 t670 #[.bool x672, .slice A673 m674 c675] := (E678.far q660 b671.lt (by simp)).trans b671
  have f692 := f635.mono E678.mono
  have f693 := f636.mono E678.mono
  have f694 := f637.mono E678.mono
  have f695 := f638.mono E678.mono
  have f696 := f639.mono E678.mono
  have f697 := f640.mono E678.mono
  have f698 := f641.mono E678.mono
  have f699 := f642.mono E678.mono
  have f700 := f643.mono E678.mono
  have f701 := f644.mono E678.mono
  have f702 := f645.mono E678.mono
  have f703 := f646.mono E678.mono
  have f704 := f647.mono E678.mono
  have f705 := f648.mono E678.mono
  have f706 := f649.mono E678.mono
  have f707 := f650.mono E678.mono
  have f708 := f651.mono E678.mono
  have f709 := f652.mono E678.mono
  have f710 := f653.mono E678.mono
  have f711 := f654.mono E678.mono
  have f712 := f655.mono E678.mono
  have f713 := f656.mono E678.mono
  have f714 := f657.mono E678.mono
  have f715 := f677.mono E678.mono
  have f716 : Az 1048576 v678 (g678 0) z := E678.facts 0 (by decide)
  have f717 : Az 1048576 v678 (g678 1) u := E678.facts 1 (by decide)
  have f718 : Cz v678 (g678 4) 0 := E678.facts 4 (by decide)
  have e719 : g678 5 = (.int .i64 20) := E678.facts 5 (by decide)
  have e720 : g678 8 = (.int .i64 20) := E678.facts 8 (by decide)
  obtain ⟨q721, p722, l723, o724⟩ : ∃ q, g678 6 = .pointer (some ⟨q, 0, none⟩) ∧ v623.heap.size ≤ q ∧ OkB v678 q 2 := E678.facts 6 (by decide)
  have h725 : w.heap.size ≤ q721 := Nat.le_trans HB l723
  have n726 : q515 ≠ q721 := by omega
  have n727 : q521 ≠ q721 := by omega
  have n728 : q546 ≠ q721 := by omega
  have n729 : q553 ≠ q721 := by omega
  have n730 : q606 ≠ q721 := by omega
  have n731 : q660 ≠ q721 := by omega
  obtain ⟨t732, x734, A735, m736, c737, e738, b733⟩ := put_info (E678.facts 7 (by decide)) p722 f718.shape
  have f739 : Cz v678 (.agg #[.bool x734, .slice A735 m736 c737]) 0 := f718.at e738.symm
  refine then_normal ?_
  refine wp_seq ?_
  refine wp_seq ?_
  have HB : w.heap.size ≤ v678.heap.size := T679.size
  refine wp_plan_seq [.val (.is (.int .i64 20)), .val (.is (.int .i64 20)), .val (.is (.bool false)), .val (.is (.bool false)), .val (.cz 0), .val (.cz 0), .val (.is (.bool true)), .val (.is (.bool false)), .val (.is (.bool false))] [] [] w.heap.size (by kernel_rfl) (by kernel_rfl) trivial HB ?_ ?_
  · exact ⟨fun s v h => does_val rfl rfl (x_move) ((h.same 11 rfl).trans e659),
      fun s v h => does_val rfl rfl (x_move) ((h.same 13 rfl).trans e720),
      fun s v h => does_val rfl rfl (x_neq_int (h.dep 0 rfl) (h.dep 1 rfl)) rfl,
      fun s v h => does_val rfl rfl (x_move) (h.dep 2 rfl),
      fun s v h => does_val rfl (wanted_by (b := false) (want := false) rfl rfl (h.dep 3 rfl)) (x_load_z ((h.same 10 rfl).trans p661) ((h.far q660 b691.lt (by simp)).trans b691)) (f715.mono h.mono),
      fun s v h => does_val rfl (wanted_by (b := false) (want := false) rfl rfl (h.dep 3 rfl)) (x_load_z ((h.same 12 rfl).trans p722) ((h.far q721 b733.lt (by simp)).trans b733)) (f739.mono h.mono),
      fun s v h => does_call rfl (wanted_by (b := false) (want := false) rfl rfl (h.dep 3 rfl)) (x_call2 Try.call12) (eq_k (h.dep 4 rfl) (h.dep 5 rfl) rfl),
      fun s v h => does_val rfl (wanted_by (b := false) (want := false) rfl rfl (h.dep 3 rfl)) (x_not (h.dep 6 rfl)) rfl,
      fun s v h => does_val rfl rfl (x_pick (h.dep 3 rfl)) (h.dep 7 rfl), trivial⟩
  intro g740 ts v740 hts E740
  simp only [fillL, Nat.reduceAdd, List.setIfInBounds_toArray, List.set_cons_zero, List.set_cons_succ] at hts
  subst hts
  have T741 : Below w.heap.size w v740 := T679.trans E740.below
  have l742 : q515 < v678.heap.size := b686.lt
  have l743 : q521 < v678.heap.size := b687.lt
  have l744 : q546 < v678.heap.size := b688.lt
  have l745 : q553 < v678.heap.size := b689.lt
  have l746 : q606 < v678.heap.size := b690.lt
  have l747 : q660 < v678.heap.size := b691.lt
  have l748 : q721 < v678.heap.size := b733.lt
  have b749 : Bx v740 q515 24 #[.bool na0, .slice A0 n0 c0] := (E740.far q515 b686.lt (by simp)).trans b686
  have b750 : Bx v740 q521 24 #[.bool na1, .slice A1 n1 c1] := (E740.far q521 b687.lt (by simp)).trans b687
  have b751 : Bx v740 q546 t561 #[.bool x563, .slice A564 m565 c566] := (E740.far q546 b688.lt (by simp)).trans b688
  have b752 : Bx v740 q553 t569 #[.bool x571, .slice A572 m573 c574] := (E740.far q553 b689.lt (by simp)).trans b689
  have b753 : Bx v740 q606 t615 #[.bool x617, .slice A618 m619 c620] := (E740.far q606 b690.lt (by simp)).trans b690
  have b754 : Bx v740 q660 t670 #[.bool x672, .slice A673 m674 c675] := (E740.far q660 b691.lt (by simp)).trans b691
  have b755 : Bx v740 q721 t732 #[.bool x734, .slice A735 m736 c737] := (E740.far q721 b733.lt (by simp)).trans b733
  have f756 := f692.mono E740.mono
  have f757 := f693.mono E740.mono
  have f758 := f694.mono E740.mono
  have f759 := f695.mono E740.mono
  have f760 := f696.mono E740.mono
  have f761 := f697.mono E740.mono
  have f762 := f698.mono E740.mono
  have f763 := f699.mono E740.mono
  have f764 := f700.mono E740.mono
  have f765 := f701.mono E740.mono
  have f766 := f702.mono E740.mono
  have f767 := f703.mono E740.mono
  have f768 := f704.mono E740.mono
  have f769 := f705.mono E740.mono
  have f770 := f706.mono E740.mono
  have f771 := f707.mono E740.mono
  have f772 := f708.mono E740.mono
  have f773 := f709.mono E740.mono
  have f774 := f710.mono E740.mono
  have f775 := f711.mono E740.mono
  have f776 := f712.mono E740.mono
  have f777 := f713.mono E740.mono
  have f778 := f714.mono E740.mono
  have f779 := f715.mono E740.mono
  have f780 := f716.mono E740.mono
  have f781 := f717.mono E740.mono
  have f782 := f718.mono E740.mono
  have f783 := f739.mono E740.mono
  have e784 : g740 0 = (.int .i64 20) := E740.facts 0 (by decide)
  have e785 : g740 1 = (.int .i64 20) := E740.facts 1 (by decide)
  have e786 : g740 2 = (.bool false) := E740.facts 2 (by decide)
  have e787 : g740 3 = (.bool false) := E740.facts 3 (by decide)
  have f788 : Cz v740 (g740 4) 0 := E740.facts 4 (by decide)
  have f789 : Cz v740 (g740 5) 0 := E740.facts 5 (by decide)
  have e790 : g740 6 = (.bool true) := E740.facts 6 (by decide)
  have e791 : g740 7 = (.bool false) := E740.facts 7 (by decide)
  have e792 : g740 8 = (.bool false) := E740.facts 8 (by decide)
  refine then_normal ?_
  refine wp_cond_false e792 ?_
  refine wp_skip ?_
  refine then_normal ?_
  refine wp_seq ?_
  refine wp_seq ?_
  have HB : w.heap.size ≤ v740.heap.size := T741.size
  refine wp_plan_seq [.val (.az 1048576 u), .val (.is (.int .i64 u.sign)), .val (.is (.bool false))] [] [] w.heap.size (by kernel_rfl) (by kernel_rfl) trivial HB ?_ ?_
  · exact ⟨fun s v h => does_val rfl rfl (x_load_z ((h.same 3 rfl).trans p522) ((h.far q521 b750.lt (by simp)).trans b750)) (f758.mono h.mono),
      fun s v h => does_call rfl rfl (x_call1 Try.call28) (r2sign_k (h.dep 0 rfl) (by omega)),
      fun s v h => does_val rfl rfl (x_eql_int (h.dep 1 rfl) rfl) (congrArg Value.bool d0), trivial⟩
  intro g793 ts v793 hts E793
  simp only [fillL, Nat.reduceAdd, List.setIfInBounds_toArray, List.set_cons_zero, List.set_cons_succ] at hts
  subst hts
  have T794 : Below w.heap.size w v793 := T741.trans E793.below
  have l795 : q515 < v740.heap.size := b749.lt
  have l796 : q521 < v740.heap.size := b750.lt
  have l797 : q546 < v740.heap.size := b751.lt
  have l798 : q553 < v740.heap.size := b752.lt
  have l799 : q606 < v740.heap.size := b753.lt
  have l800 : q660 < v740.heap.size := b754.lt
  have l801 : q721 < v740.heap.size := b755.lt
  have b802 : Bx v793 q515 24 #[.bool na0, .slice A0 n0 c0] := (E793.far q515 b749.lt (by simp)).trans b749
  have b803 : Bx v793 q521 24 #[.bool na1, .slice A1 n1 c1] := (E793.far q521 b750.lt (by simp)).trans b750
  have b804 : Bx v793 q546 t561 #[.bool x563, .slice A564 m565 c566] := (E793.far q546 b751.lt (by simp)).trans b751
  have b805 : Bx v793 q553 t569 #[.bool x571, .slice A572 m573 c574] := (E793.far q553 b752.lt (by simp)).trans b752
  have b806 : Bx v793 q606 t615 #[.bool x617, .slice A618 m619 c620] := (E793.far q606 b753.lt (by simp)).trans b753
  have b807 : Bx v793 q660 t670 #[.bool x672, .slice A673 m674 c675] := (E793.far q660 b754.lt (by simp)).trans b754
  have b808 : Bx v793 q721 t732 #[.bool x734, .slice A735 m736 c737] := (E793.far q721 b755.lt (by simp)).trans b755
  have f809 := f756.mono E793.mono
  have f810 := f757.mono E793.mono
  have f811 := f758.mono E793.mono
  have f812 := f759.mono E793.mono
  have f813 := f760.mono E793.mono
  have f814 := f761.mono E793.mono
  have f815 := f762.mono E793.mono
  have f816 := f763.mono E793.mono
  have f817 := f764.mono E793.mono
  have f818 := f765.mono E793.mono
  have f819 := f766.mono E793.mono
  have f820 := f767.mono E793.mono
  have f821 := f768.mono E793.mono
  have f822 := f769.mono E793.mono
  have f823 := f770.mono E793.mono
  have f824 := f771.mono E793.mono
  have f825 := f772.mono E793.mono
  have f826 := f773.mono E793.mono
  have f827 := f774.mono E793.mono
  have f828 := f775.mono E793.mono
  have f829 := f776.mono E793.mono
  have f830 := f777.mono E793.mono
  have f831 := f778.mono E793.mono
  have f832 := f779.mono E793.mono
  have f833 := f780.mono E793.mono
  have f834 := f781.mono E793.mono
  have f835 := f782.mono E793.mono
  have f836 := f783.mono E793.mono
  have f837 := f788.mono E793.mono
  have f838 := f789.mono E793.mono
  have f839 : Az 1048576 v793 (g793 0) u := E793.facts 0 (by decide)
  have e840 : g793 1 = (.int .i64 u.sign) := E793.facts 1 (by decide)
  have e841 : g793 2 = (.bool false) := E793.facts 2 (by decide)
  refine then_normal ?_
  refine wp_cond_false e841 ?_
  refine wp_skip ?_
  refine then_normal ?_
  refine wp_seq ?_
  have HB : w.heap.size ≤ v793.heap.size := T794.size
  refine wp_plan_seq [.val (.az 1048576 z), .val (.az 1048576 u), .val (.tup2 (.cz (fl z u)) (.cz (md z u))), .val (.tup2 (.cz (fl z u)) (.cz (md z u))), .val (.cz (fl z u)), .val (.cz (md z u)), .new 2 none, .new 2 none, .put 14 84, .put 15 85] [] [] w.heap.size (by kernel_rfl) (by kernel_rfl) trivial HB ?_ ?_
  · exact ⟨fun s v h => does_val rfl rfl (x_load_z ((h.same 2 rfl).trans p516) ((h.far q515 b802.lt (by simp)).trans b802)) (f809.mono h.mono),
      fun s v h => does_val rfl rfl (x_load_z ((h.same 3 rfl).trans p522) ((h.far q521 b803.lt (by simp)).trans b803)) (f811.mono h.mono),
      fun s v h => does_call rfl rfl (x_call2 Try.call29) (r2floor_k (h.dep 0 rfl) (h.dep 1 rfl) (by omega) (by omega) hu),
      fun s v h => does_val rfl rfl (x_move) (h.dep 2 rfl),
      fun s v h => by obtain ⟨r0, r1, e, f0, f1⟩ := tup2_at (h.dep 3 rfl); exact does_val rfl rfl (x_ext e rfl) f0,
      fun s v h => by obtain ⟨r0, r1, e, f0, f1⟩ := tup2_at (h.dep 3 rfl); exact does_val rfl rfl (x_ext e rfl) f1,
      fun s v h => does_new rfl rfl x_alloc_z (okz _ _ _ _) rfl (.inl rfl),
      fun s v h => does_new rfl rfl x_alloc_z (okz _ _ _ _) rfl (.inl rfl),
      fun s v h => by obtain ⟨q, e1, e2, e3⟩ := new_at (h.dep 6 rfl); exact does_put_z rfl rfl e1 (h.dep 4 rfl).shape e3 (Nat.le_trans HB e2),
      fun s v h => by obtain ⟨q, e1, e2, e3⟩ := new_at (h.dep 7 rfl); exact does_put_z rfl rfl e1 (h.dep 5 rfl).shape e3 (Nat.le_trans HB e2), trivial⟩
  intro g842 ts v842 hts E842
  simp only [fillL, Nat.reduceAdd, List.setIfInBounds_toArray, List.set_cons_zero, List.set_cons_succ] at hts
  subst hts
  have T843 : Below w.heap.size w v842 := T794.trans E842.below
  have l844 : q515 < v793.heap.size := b802.lt
  have l845 : q521 < v793.heap.size := b803.lt
  have l846 : q546 < v793.heap.size := b804.lt
  have l847 : q553 < v793.heap.size := b805.lt
  have l848 : q606 < v793.heap.size := b806.lt
  have l849 : q660 < v793.heap.size := b807.lt
  have l850 : q721 < v793.heap.size := b808.lt
  have b851 : Bx v842 q515 24 #[.bool na0, .slice A0 n0 c0] := (E842.far q515 b802.lt (by simp)).trans b802
  have b852 : Bx v842 q521 24 #[.bool na1, .slice A1 n1 c1] := (E842.far q521 b803.lt (by simp)).trans b803
  have b853 : Bx v842 q546 t561 #[.bool x563, .slice A564 m565 c566] := (E842.far q546 b804.lt (by simp)).trans b804
  have b854 : Bx v842 q553 t569 #[.bool x571, .slice A572 m573 c574] := (E842.far q553 b805.lt (by simp)).trans b805
  have b855 : Bx v842 q606 t615 #[.bool x617, .slice A618 m619 c620] := (E842.far q606 b806.lt (by simp)).trans b806
  have b856 : Bx v842 q660 t670 #[.bool x672, .slice A673 m674 c675] := (E842.far q660 b807.lt (by simp)).trans b807
  have b857 : Bx v842 q721 t732 #[.bool x734, .slice A735 m736 c737] := (E842.far q721 b808.lt (by simp)).trans b808
  have f858 := f809.mono E842.mono
  have f859 := f810.mono E842.mono
  have f860 := f811.mono E842.mono
  have f861 := f812.mono E842.mono
  have f862 := f813.mono E842.mono
  have f863 := f814.mono E842.mono
  have f864 := f815.mono E842.mono
  have f865 := f816.mono E842.mono
  have f866 := f817.mono E842.mono
  have f867 := f818.mono E842.mono
  have f868 := f819.mono E842.mono
  have f869 := f820.mono E842.mono
  have f870 := f821.mono E842.mono
  have f871 := f822.mono E842.mono
  have f872 := f823.mono E842.mono
  have f873 := f824.mono E842.mono
  have f874 := f825.mono E842.mono
  have f875 := f826.mono E842.mono
  have f876 := f827.mono E842.mono
  have f877 := f828.mono E842.mono
  have f878 := f829.mono E842.mono
  have f879 := f830.mono E842.mono
  have f880 := f831.mono E842.mono
  have f881 := f832.mono E842.mono
  have f882 := f833.mono E842.mono
  have f883 := f834.mono E842.mono
  have f884 := f835.mono E842.mono
  have f885 := f836.mono E842.mono
  have f886 := f837.mono E842.mono
  have f887 := f838.mono E842.mono
  have f888 := f839.mono E842.mono
  have f889 : Az 1048576 v842 (g842 0) z := E842.facts 0 (by decide)
  have f890 : Az 1048576 v842 (g842 1) u := E842.facts 1 (by decide)
  have f891 : Cz v842 (g842 4) (fl z u) := E842.facts 4 (by decide)
  have f892 : Cz v842 (g842 5) (md z u) := E842.facts 5 (by decide)
  obtain ⟨q893, p894, l895, o896⟩ : ∃ q, g842 6 = .pointer (some ⟨q, 0, none⟩) ∧ v793.heap.size ≤ q ∧ OkB v842 q 2 := E842.facts 6 (by decide)
  have h897 : w.heap.size ≤ q893 := Nat.le_trans HB l895
  have n898 : q515 ≠ q893 := by omega
  have n899 : q521 ≠ q893 := by omega
  have n900 : q546 ≠ q893 := by omega
  have n901 : q553 ≠ q893 := by omega
  have n902 : q606 ≠ q893 := by omega
  have n903 : q660 ≠ q893 := by omega
  have n904 : q721 ≠ q893 := by omega
  obtain ⟨q905, p906, l907, o908⟩ : ∃ q, g842 7 = .pointer (some ⟨q, 0, none⟩) ∧ v793.heap.size ≤ q ∧ OkB v842 q 2 := E842.facts 7 (by decide)
  have h909 : w.heap.size ≤ q905 := Nat.le_trans HB l907
  have n910 : q515 ≠ q905 := by omega
  have n911 : q521 ≠ q905 := by omega
  have n912 : q546 ≠ q905 := by omega
  have n913 : q553 ≠ q905 := by omega
  have n914 : q606 ≠ q905 := by omega
  have n915 : q660 ≠ q905 := by omega
  have n916 : q721 ≠ q905 := by omega
  have n917 : q893 ≠ q905 := apart_ne (E842.apart 6 7 (by decide) (by decide) (by decide) ⟨_, _, rfl⟩ ⟨_, _, rfl⟩) p894 p906
  obtain ⟨t918, x920, A921, m922, c923, e924, b919⟩ := put_info (E842.facts 8 (by decide)) p894 f891.shape
  have f925 : Cz v842 (.agg #[.bool x920, .slice A921 m922 c923]) (fl z u) := f891.at e924.symm
  obtain ⟨t926, x928, A929, m930, c931, e932, b927⟩ := put_info (E842.facts 9 (by decide)) p906 f892.shape
  have f933 : Cz v842 (.agg #[.bool x928, .slice A929 m930 c931]) (md z u) := f892.at e932.symm
  refine then_normal ?_
  refine wp_seq ?_
  have HB : w.heap.size ≤ v842.heap.size := T843.size
  refine wp_plan_any [.val (.is (.int .i64 0)), .val (.is (.bool true)), .val (.is (.bool true)), .val (.is (.int .i64 0)), .val (.is (.bool true)), .val (.is (.bool true)), .val (.is (.bool true)), .val (.cz (fl z u)), .val (.cz (fl z u)), .val (.is (.bool true)), .val (.is (.bool true)), .val (.is (.bool true)), .val (.cz (md z u)), .val (.cz (md z u)), .val (.is (.bool true)), .val (.is (.bool true)), .val (.is (.bool true)), .val (.cz (fl (z + z + u) (u + u))), .val (.az 1048576 z), .val (.az 1048576 u), .val (.cz (fl (2 * z + u) (2 * u))), .val (.is (.bool true)), .val (.is (.bool true)), .val (.is (.bool true))] [] [] w.heap.size (by kernel_rfl) (by kernel_rfl) (by kernel_rfl) trivial HB ?_ ?_
  · exact ⟨fun s v h => does_val rfl rfl (x_move) ((h.same 7 rfl).trans e545),
      fun s v h => does_val rfl rfl (x_eql_err (h.dep 0 rfl) rfl) rfl,
      fun s v h => does_val rfl rfl (x_move) (h.dep 1 rfl),
      fun s v h => does_val rfl (wanted_by (b := true) (want := true) rfl rfl (h.dep 2 rfl)) (x_move) ((h.same 9 rfl).trans e605),
      fun s v h => does_val rfl (wanted_by (b := true) (want := true) rfl rfl (h.dep 2 rfl)) (x_eql_err (h.dep 3 rfl) rfl) rfl,
      fun s v h => does_val rfl rfl (x_pick (h.dep 2 rfl)) (h.dep 4 rfl),
      fun s v h => does_val rfl rfl (x_move) (h.dep 5 rfl),
      fun s v h => does_val rfl (wanted_by (b := true) (want := true) rfl rfl (h.dep 6 rfl)) (x_load_z ((h.same 5 rfl).trans p547) ((h.far q546 b853.lt (by simp)).trans b853)) (f868.mono ((Mono.drew _).trans h.mono)),
      fun s v h => does_val rfl (wanted_by (b := true) (want := true) rfl rfl (h.dep 6 rfl)) (x_load_z ((h.same 14 rfl).trans p894) ((h.far q893 b919.lt (by simp)).trans b919)) (f925.mono ((Mono.drew _).trans h.mono)),
      fun s v h => does_call rfl (wanted_by (b := true) (want := true) rfl rfl (h.dep 6 rfl)) (x_call2 Try.call12) (eq_k (h.dep 7 rfl) (h.dep 8 rfl) rfl),
      fun s v h => does_val rfl rfl (x_pick (h.dep 6 rfl)) (h.dep 9 rfl),
      fun s v h => does_val rfl rfl (x_move) (h.dep 10 rfl),
      fun s v h => does_val rfl (wanted_by (b := true) (want := true) rfl rfl (h.dep 11 rfl)) (x_load_z ((h.same 6 rfl).trans p554) ((h.far q553 b854.lt (by simp)).trans b854)) (f869.mono ((Mono.drew _).trans h.mono)),
      fun s v h => does_val rfl (wanted_by (b := true) (want := true) rfl rfl (h.dep 11 rfl)) (x_load_z ((h.same 15 rfl).trans p906) ((h.far q905 b927.lt (by simp)).trans b927)) (f933.mono ((Mono.drew _).trans h.mono)),
      fun s v h => does_call rfl (wanted_by (b := true) (want := true) rfl rfl (h.dep 11 rfl)) (x_call2 Try.call12) (eq_k (h.dep 12 rfl) (h.dep 13 rfl) rfl),
      fun s v h => does_val rfl rfl (x_pick (h.dep 11 rfl)) (h.dep 14 rfl),
      fun s v h => does_val rfl rfl (x_move) (h.dep 15 rfl),
      fun s v h => does_val rfl (wanted_by (b := true) (want := true) rfl rfl (h.dep 16 rfl)) (x_load_z ((h.same 8 rfl).trans p607) ((h.far q606 b855.lt (by simp)).trans b855)) (f875.mono ((Mono.drew _).trans h.mono)),
      fun s v h => does_val rfl (wanted_by (b := true) (want := true) rfl rfl (h.dep 16 rfl)) (x_load_z ((h.same 2 rfl).trans p516) ((h.far q515 b851.lt (by simp)).trans b851)) (f858.mono ((Mono.drew _).trans h.mono)),
      fun s v h => does_val rfl (wanted_by (b := true) (want := true) rfl rfl (h.dep 16 rfl)) (x_load_z ((h.same 3 rfl).trans p522) ((h.far q521 b852.lt (by simp)).trans b852)) (f860.mono ((Mono.drew _).trans h.mono)),
      fun s v h => does_call rfl (wanted_by (b := true) (want := true) rfl rfl (h.dep 16 rfl)) (x_call2 Try.call30) (r2near_k (h.dep 18 rfl) (h.dep 19 rfl) (by omega) (by omega) (by omega)),
      fun s v h => does_call rfl (wanted_by (b := true) (want := true) rfl rfl (h.dep 16 rfl)) (x_call2 Try.call12) (eq_k (h.dep 17 rfl) (h.dep 20 rfl) (by rw [show z + z + u = 2 * z + u by omega, show u + u = 2 * u by omega])),
      fun s v h => does_val rfl rfl (x_pick (h.dep 16 rfl)) (h.dep 21 rfl),
      fun s v h => does_val rfl rfl (x_assign) (h.dep 22 rfl), trivial⟩
  intro g934 ts v934 hts E934
  simp only [fillL, Nat.reduceAdd, List.setIfInBounds_toArray, List.set_cons_zero, List.set_cons_succ] at hts
  subst hts
  have T935 : Below w.heap.size w v934 := (below_toDrew T843).trans E934.below
  have l936 : q515 < v842.heap.size := b851.lt
  have l937 : q521 < v842.heap.size := b852.lt
  have l938 : q546 < v842.heap.size := b853.lt
  have l939 : q553 < v842.heap.size := b854.lt
  have l940 : q606 < v842.heap.size := b855.lt
  have l941 : q660 < v842.heap.size := b856.lt
  have l942 : q721 < v842.heap.size := b857.lt
  have l943 : q893 < v842.heap.size := b919.lt
  have l944 : q905 < v842.heap.size := b927.lt
  have b945 : Bx v934 q515 24 #[.bool na0, .slice A0 n0 c0] := (E934.far q515 b851.lt (by simp)).trans b851
  have b946 : Bx v934 q521 24 #[.bool na1, .slice A1 n1 c1] := (E934.far q521 b852.lt (by simp)).trans b852
  have b947 : Bx v934 q546 t561 #[.bool x563, .slice A564 m565 c566] := (E934.far q546 b853.lt (by simp)).trans b853
  have b948 : Bx v934 q553 t569 #[.bool x571, .slice A572 m573 c574] := (E934.far q553 b854.lt (by simp)).trans b854
  have b949 : Bx v934 q606 t615 #[.bool x617, .slice A618 m619 c620] := (E934.far q606 b855.lt (by simp)).trans b855
  have b950 : Bx v934 q660 t670 #[.bool x672, .slice A673 m674 c675] := (E934.far q660 b856.lt (by simp)).trans b856
  have b951 : Bx v934 q721 t732 #[.bool x734, .slice A735 m736 c737] := (E934.far q721 b857.lt (by simp)).trans b857
  have b952 : Bx v934 q893 t918 #[.bool x920, .slice A921 m922 c923] := (E934.far q893 b919.lt (by simp)).trans b919
  have b953 : Bx v934 q905 t926 #[.bool x928, .slice A929 m930 c931] := (E934.far q905 b927.lt (by simp)).trans b927
  have f954 := f858.mono ((Mono.drew _).trans E934.mono)
  have f955 := f859.mono ((Mono.drew _).trans E934.mono)
  have f956 := f860.mono ((Mono.drew _).trans E934.mono)
  have f957 := f861.mono ((Mono.drew _).trans E934.mono)
  have f958 := f862.mono ((Mono.drew _).trans E934.mono)
  have f959 := f863.mono ((Mono.drew _).trans E934.mono)
  have f960 := f864.mono ((Mono.drew _).trans E934.mono)
  have f961 := f865.mono ((Mono.drew _).trans E934.mono)
  have f962 := f866.mono ((Mono.drew _).trans E934.mono)
  have f963 := f867.mono ((Mono.drew _).trans E934.mono)
  have f964 := f868.mono ((Mono.drew _).trans E934.mono)
  have f965 := f869.mono ((Mono.drew _).trans E934.mono)
  have f966 := f870.mono ((Mono.drew _).trans E934.mono)
  have f967 := f871.mono ((Mono.drew _).trans E934.mono)
  have f968 := f872.mono ((Mono.drew _).trans E934.mono)
  have f969 := f873.mono ((Mono.drew _).trans E934.mono)
  have f970 := f874.mono ((Mono.drew _).trans E934.mono)
  have f971 := f875.mono ((Mono.drew _).trans E934.mono)
  have f972 := f876.mono ((Mono.drew _).trans E934.mono)
  have f973 := f877.mono ((Mono.drew _).trans E934.mono)
  have f974 := f878.mono ((Mono.drew _).trans E934.mono)
  have f975 := f879.mono ((Mono.drew _).trans E934.mono)
  have f976 := f880.mono ((Mono.drew _).trans E934.mono)
  have f977 := f881.mono ((Mono.drew _).trans E934.mono)
  have f978 := f882.mono ((Mono.drew _).trans E934.mono)
  have f979 := f883.mono ((Mono.drew _).trans E934.mono)
  have f980 := f884.mono ((Mono.drew _).trans E934.mono)
  have f981 := f885.mono ((Mono.drew _).trans E934.mono)
  have f982 := f886.mono ((Mono.drew _).trans E934.mono)
  have f983 := f887.mono ((Mono.drew _).trans E934.mono)
  have f984 := f888.mono ((Mono.drew _).trans E934.mono)
  have f985 := f889.mono ((Mono.drew _).trans E934.mono)
  have f986 := f890.mono ((Mono.drew _).trans E934.mono)
  have f987 := f891.mono ((Mono.drew _).trans E934.mono)
  have f988 := f892.mono ((Mono.drew _).trans E934.mono)
  have f989 := f925.mono ((Mono.drew _).trans E934.mono)
  have f990 := f933.mono ((Mono.drew _).trans E934.mono)
  have e991 : g934 0 = (.int .i64 0) := E934.facts 0 (by decide)
  have e992 : g934 1 = (.bool true) := E934.facts 1 (by decide)
  have e993 : g934 2 = (.bool true) := E934.facts 2 (by decide)
  have e994 : g934 3 = (.int .i64 0) := E934.facts 3 (by decide)
  have e995 : g934 4 = (.bool true) := E934.facts 4 (by decide)
  have e996 : g934 5 = (.bool true) := E934.facts 5 (by decide)
  have e997 : g934 6 = (.bool true) := E934.facts 6 (by decide)
  have f998 : Cz v934 (g934 7) (fl z u) := E934.facts 7 (by decide)
  have f999 : Cz v934 (g934 8) (fl z u) := E934.facts 8 (by decide)
  have e1000 : g934 9 = (.bool true) := E934.facts 9 (by decide)
  have e1001 : g934 10 = (.bool true) := E934.facts 10 (by decide)
  have e1002 : g934 11 = (.bool true) := E934.facts 11 (by decide)
  have f1003 : Cz v934 (g934 12) (md z u) := E934.facts 12 (by decide)
  have f1004 : Cz v934 (g934 13) (md z u) := E934.facts 13 (by decide)
  have e1005 : g934 14 = (.bool true) := E934.facts 14 (by decide)
  have e1006 : g934 15 = (.bool true) := E934.facts 15 (by decide)
  have e1007 : g934 16 = (.bool true) := E934.facts 16 (by decide)
  have f1008 : Cz v934 (g934 17) (fl (z + z + u) (u + u)) := E934.facts 17 (by decide)
  have f1009 : Az 1048576 v934 (g934 18) z := E934.facts 18 (by decide)
  have f1010 : Az 1048576 v934 (g934 19) u := E934.facts 19 (by decide)
  have f1011 : Cz v934 (g934 20) (fl (2 * z + u) (2 * u)) := E934.facts 20 (by decide)
  have e1012 : g934 21 = (.bool true) := E934.facts 21 (by decide)
  have e1013 : g934 22 = (.bool true) := E934.facts 22 (by decide)
  have e1014 : g934 23 = (.bool true) := E934.facts 23 (by decide)
  refine then_normal ?_
  refine wp_ret ?_
  exact bodyPost_ret (results_tmp (t := 4) rfl _ _ _) rfl ⟨_, rfl, e1014, T935⟩

set_option maxRecDepth 8000 in
theorem zq_c {w : World} {x : Value} {z : Int} (h0 : Az 1048576 w x z) {y : Value} {u : Int} (h1 : Az 1048576 w y u) (hu : u = 0) (d0 : (u.sign == 0) = true)  : Calls Try.prog 5 #[x, y] w (Ret (.is (.bool true)) w) := by
  have la0 := h0.len
  obtain ⟨na0, A0, n0, c0, M0, rfl, hm0, hz0⟩ := h0.parts
  have la1 := h1.len
  obtain ⟨na1, A1, n1, c1, M1, rfl, hm1, hz1⟩ := h1.parts
  have T0 : Below w.heap.size w w := Below.refl _ _
  go_enter Try.func5, Try.ntmps5
  refine wp_seq ?_
  have HB : w.heap.size ≤ w.heap.size := T0.size
  refine wp_plan_seq [.new 2 (some (24, #[.bool na0, .slice A0 n0 c0])), .new 2 (some (24, #[.bool na1, .slice A1 n1 c1])), .val (.is (.bool false))] [] [] w.heap.size (by kernel_rfl) (by kernel_rfl) trivial HB ?_ ?_
  · exact ⟨fun s v h => does_new rfl rfl (x_box_z (h.same 0 rfl)) (okz _ _ _ _) rfl (.inr rfl),
      fun s v h => does_new rfl rfl (x_box_z (h.same 1 rfl)) (okz _ _ _ _) rfl (.inr rfl),
      fun s v h => does_val rfl rfl (x_assign) rfl, trivial⟩
  intro g1015 ts v1015 hts E1015
  simp only [fillL, Nat.reduceAdd, List.setIfInBounds_toArray, List.set_cons_zero, List.set_cons_succ] at hts
  subst hts
  have T1016 : Below w.heap.size w v1015 := T0.trans E1015.below
  have f1017 := h0.mono E1015.mono
  have f1018 := hm0.mono E1015.mono
  have f1019 := h1.mono E1015.mono
  have f1020 := hm1.mono E1015.mono
  have e1021 : g1015 2 = (.bool false) := E1015.facts 2 (by decide)
  obtain ⟨q1022, p1023, l1024, o1025, b1026⟩ : ∃ q, g1015 0 = .pointer (some ⟨q, 0, none⟩) ∧ w.heap.size ≤ q ∧ OkB v1015 q 2 ∧ Bx v1015 q 24 #[.bool na0, .slice A0 n0 c0] := E1015.facts 0 (by decide)
  have h1027 : w.heap.size ≤ q1022 := Nat.le_trans HB l1024
  obtain ⟨q1028, p1029, l1030, o1031, b1032⟩ : ∃ q, g1015 1 = .pointer (some ⟨q, 0, none⟩) ∧ w.heap.size ≤ q ∧ OkB v1015 q 2 ∧ Bx v1015 q 24 #[.bool na1, .slice A1 n1 c1] := E1015.facts 1 (by decide)
  have h1033 : w.heap.size ≤ q1028 := Nat.le_trans HB l1030
  have n1034 : q1022 ≠ q1028 := apart_ne (E1015.apart 0 1 (by decide) (by decide) (by decide) ⟨_, _, rfl⟩ ⟨_, _, rfl⟩) p1023 p1029
  refine then_normal ?_
  refine wp_seq ?_
  have HB : w.heap.size ≤ v1015.heap.size := T1016.size
  refine wp_plan_any [.val (.az 1048576 z), .val (.az 1048576 z), .val (.az 1048576 u), .val (.az 1048576 u), .val (.tup3 (.cz 0) (.cz 0) (.is (.int .i64 11))), .val (.tup3 (.cz 0) (.cz 0) (.is (.int .i64 11))), .val (.cz 0), .val (.cz 0), .val (.is (.int .i64 11)), .new 2 none, .new 2 none, .put 5 22, .put 6 23, .val (.is (.int .i64 11))] [] [] w.heap.size (by kernel_rfl) (by kernel_rfl) (by kernel_rfl) trivial HB ?_ ?_
  · exact ⟨fun s v h => does_val rfl rfl (x_load_z ((h.same 2 rfl).trans p1023) ((h.far q1022 b1026.lt (by simp)).trans b1026)) (f1017.mono ((Mono.drew _).trans h.mono)),
      fun s v h => does_call rfl rfl (x_call1 Try.call18) (own_k (h.dep 0 rfl) (by omega)),
      fun s v h => does_val rfl rfl (x_load_z ((h.same 3 rfl).trans p1029) ((h.far q1028 b1032.lt (by simp)).trans b1032)) (f1019.mono ((Mono.drew _).trans h.mono)),
      fun s v h => does_call rfl rfl (x_call1 Try.call18) (own_k (h.dep 2 rfl) (by omega)),
      fun s v h => does_call rfl rfl (x_call2 Try.call24) (zfloor0_k (h.dep 1 rfl) (h.dep 3 rfl) hu),
      fun s v h => does_val rfl rfl (x_move) (h.dep 4 rfl),
      fun s v h => by obtain ⟨r0, r1, r2, e, f0, f1, f2⟩ := tup3_at (h.dep 5 rfl); exact does_val rfl rfl (x_ext e rfl) f0,
      fun s v h => by obtain ⟨r0, r1, r2, e, f0, f1, f2⟩ := tup3_at (h.dep 5 rfl); exact does_val rfl rfl (x_ext e rfl) f1,
      fun s v h => by obtain ⟨r0, r1, r2, e, f0, f1, f2⟩ := tup3_at (h.dep 5 rfl); exact does_val rfl rfl (x_ext e rfl) f2,
      fun s v h => does_new rfl rfl x_alloc_z (okz _ _ _ _) rfl (.inl rfl),
      fun s v h => does_new rfl rfl x_alloc_z (okz _ _ _ _) rfl (.inl rfl),
      fun s v h => by obtain ⟨q, e1, e2, e3⟩ := new_at (h.dep 9 rfl); exact does_put_z rfl rfl e1 (h.dep 6 rfl).shape e3 (Nat.le_trans HB e2),
      fun s v h => by obtain ⟨q, e1, e2, e3⟩ := new_at (h.dep 10 rfl); exact does_put_z rfl rfl e1 (h.dep 7 rfl).shape e3 (Nat.le_trans HB e2),
      fun s v h => does_val rfl rfl (x_assign) (h.dep 8 rfl), trivial⟩
  intro g1035 ts v1035 hts E1035
  simp only [fillL, Nat.reduceAdd, List.setIfInBounds_toArray, List.set_cons_zero, List.set_cons_succ] at hts
  subst hts
  have T1036 : Below w.heap.size w v1035 := (below_toDrew T1016).trans E1035.below
  have l1037 : q1022 < v1015.heap.size := b1026.lt
  have l1038 : q1028 < v1015.heap.size := b1032.lt
  have b1039 : Bx v1035 q1022 24 #[.bool na0, .slice A0 n0 c0] := (E1035.far q1022 b1026.lt (by simp)).trans b1026
  have b1040 : Bx v1035 q1028 24 #[.bool na1, .slice A1 n1 c1] := (E1035.far q1028 b1032.lt (by simp)).trans b1032
  have f1041 := f1017.mono ((Mono.drew _).trans E1035.mono)
  have f1042 := f1018.mono ((Mono.drew _).trans E1035.mono)
  have f1043 := f1019.mono ((Mono.drew _).trans E1035.mono)
  have f1044 := f1020.mono ((Mono.drew _).trans E1035.mono)
  have f1045 : Az 1048576 v1035 (g1035 0) z := E1035.facts 0 (by decide)
  have f1046 : Az 1048576 v1035 (g1035 1) z := E1035.facts 1 (by decide)
  have f1047 : Az 1048576 v1035 (g1035 2) u := E1035.facts 2 (by decide)
  have f1048 : Az 1048576 v1035 (g1035 3) u := E1035.facts 3 (by decide)
  have f1049 : Cz v1035 (g1035 6) 0 := E1035.facts 6 (by decide)
  have f1050 : Cz v1035 (g1035 7) 0 := E1035.facts 7 (by decide)
  have e1051 : g1035 8 = (.int .i64 11) := E1035.facts 8 (by decide)
  have e1052 : g1035 13 = (.int .i64 11) := E1035.facts 13 (by decide)
  obtain ⟨q1053, p1054, l1055, o1056⟩ : ∃ q, g1035 9 = .pointer (some ⟨q, 0, none⟩) ∧ v1015.heap.size ≤ q ∧ OkB v1035 q 2 := E1035.facts 9 (by decide)
  have h1057 : w.heap.size ≤ q1053 := Nat.le_trans HB l1055
  have n1058 : q1022 ≠ q1053 := by omega
  have n1059 : q1028 ≠ q1053 := by omega
  obtain ⟨q1060, p1061, l1062, o1063⟩ : ∃ q, g1035 10 = .pointer (some ⟨q, 0, none⟩) ∧ v1015.heap.size ≤ q ∧ OkB v1035 q 2 := E1035.facts 10 (by decide)
  have h1064 : w.heap.size ≤ q1060 := Nat.le_trans HB l1062
  have n1065 : q1022 ≠ q1060 := by omega
  have n1066 : q1028 ≠ q1060 := by omega
  have n1067 : q1053 ≠ q1060 := apart_ne (E1035.apart 9 10 (by decide) (by decide) (by decide) ⟨_, _, rfl⟩ ⟨_, _, rfl⟩) p1054 p1061
  obtain ⟨t1068, x1070, A1071, m1072, c1073, e1074, b1069⟩ := put_info (E1035.facts 11 (by decide)) p1054 f1049.shape
  have f1075 : Cz v1035 (.agg #[.bool x1070, .slice A1071 m1072 c1073]) 0 := f1049.at e1074.symm
  obtain ⟨t1076, x1078, A1079, m1080, c1081, e1082, b1077⟩ := put_info (E1035.facts 12 (by decide)) p1061 f1050.shape
  have f1083 : Cz v1035 (.agg #[.bool x1078, .slice A1079 m1080 c1081]) 0 := f1050.at e1082.symm
  refine then_normal ?_
  refine wp_seq ?_
  have HB : w.heap.size ≤ v1035.heap.size := T1036.size
  refine wp_plan_any [.val (.az 1048576 z), .val (.az 1048576 z), .val (.az 1048576 u), .val (.az 1048576 u), .val (.tup2 (.cz 0) (.is (.int .i64 11))), .val (.tup2 (.cz 0) (.is (.int .i64 11))), .val (.cz 0), .val (.is (.int .i64 11)), .new 2 none, .put 8 31, .val (.is (.int .i64 11))] [] [] w.heap.size (by kernel_rfl) (by kernel_rfl) (by kernel_rfl) trivial HB ?_ ?_
  · exact ⟨fun s v h => does_val rfl rfl (x_load_z ((h.same 2 rfl).trans p1023) ((h.far q1022 b1039.lt (by simp)).trans b1039)) (f1041.mono ((Mono.drew _).trans h.mono)),
      fun s v h => does_call rfl rfl (x_call1 Try.call18) (own_k (h.dep 0 rfl) (by omega)),
      fun s v h => does_val rfl rfl (x_load_z ((h.same 3 rfl).trans p1029) ((h.far q1028 b1040.lt (by simp)).trans b1040)) (f1043.mono ((Mono.drew _).trans h.mono)),
      fun s v h => does_call rfl rfl (x_call1 Try.call18) (own_k (h.dep 2 rfl) (by omega)),
      fun s v h => does_call rfl rfl (x_call2 Try.call25) (znear0_k (h.dep 1 rfl) (h.dep 3 rfl) (by omega) (by omega) (by omega)),
      fun s v h => does_val rfl rfl (x_move) (h.dep 4 rfl),
      fun s v h => by obtain ⟨r0, r1, e, f0, f1⟩ := tup2_at (h.dep 5 rfl); exact does_val rfl rfl (x_ext e rfl) f0,
      fun s v h => by obtain ⟨r0, r1, e, f0, f1⟩ := tup2_at (h.dep 5 rfl); exact does_val rfl rfl (x_ext e rfl) f1,
      fun s v h => does_new rfl rfl x_alloc_z (okz _ _ _ _) rfl (.inl rfl),
      fun s v h => by obtain ⟨q, e1, e2, e3⟩ := new_at (h.dep 8 rfl); exact does_put_z rfl rfl e1 (h.dep 6 rfl).shape e3 (Nat.le_trans HB e2),
      fun s v h => does_val rfl rfl (x_assign) (h.dep 7 rfl), trivial⟩
  intro g1084 ts v1084 hts E1084
  simp only [fillL, Nat.reduceAdd, List.setIfInBounds_toArray, List.set_cons_zero, List.set_cons_succ] at hts
  subst hts
  have T1085 : Below w.heap.size w v1084 := (below_toDrew T1036).trans E1084.below
  have l1086 : q1022 < v1035.heap.size := b1039.lt
  have l1087 : q1028 < v1035.heap.size := b1040.lt
  have l1088 : q1053 < v1035.heap.size := b1069.lt
  have l1089 : q1060 < v1035.heap.size := b1077.lt
  have b1090 : Bx v1084 q1022 24 #[.bool na0, .slice A0 n0 c0] := (E1084.far q1022 b1039.lt (by simp)).trans b1039
  have b1091 : Bx v1084 q1028 24 #[.bool na1, .slice A1 n1 c1] := (E1084.far q1028 b1040.lt (by simp)).trans b1040
  have b1092 : Bx v1084 q1053 t1068 #[.bool x1070, .slice A1071 m1072 c1073] := (E1084.far q1053 b1069.lt (by simp)).trans b1069
  have b1093 : Bx v1084 q1060 t1076 #[.bool x1078, .slice A1079 m1080 c1081] := (E1084.far q1060 b1077.lt (by simp)).trans b1077
  have f1094 := f1041.mono ((Mono.drew _).trans E1084.mono)
  have f1095 := f1042.mono ((Mono.drew _).trans E1084.mono)
  have f1096 := f1043.mono ((Mono.drew _).trans E1084.mono)
  have f1097 := f1044.mono ((Mono.drew _).trans E1084.mono)
  have f1098 := f1045.mono ((Mono.drew _).trans E1084.mono)
  have f1099 := f1046.mono ((Mono.drew _).trans E1084.mono)
  have f1100 := f1047.mono ((Mono.drew _).trans E1084.mono)
  have f1101 := f1048.mono ((Mono.drew _).trans E1084.mono)
  have f1102 := f1049.mono ((Mono.drew _).trans E1084.mono)
  have f1103 := f1050.mono ((Mono.drew _).trans E1084.mono)
  have f1104 := f1075.mono ((Mono.drew _).trans E1084.mono)
  have f1105 := f1083.mono ((Mono.drew _).trans E1084.mono)
  have f1106 : Az 1048576 v1084 (g1084 0) z := E1084.facts 0 (by decide)
  have f1107 : Az 1048576 v1084 (g1084 1) z := E1084.facts 1 (by decide)
  have f1108 : Az 1048576 v1084 (g1084 2) u := E1084.facts 2 (by decide)
  have f1109 : Az 1048576 v1084 (g1084 3) u := E1084.facts 3 (by decide)
  have f1110 : Cz v1084 (g1084 6) 0 := E1084.facts 6 (by decide)
  have e1111 : g1084 7 = (.int .i64 11) := E1084.facts 7 (by decide)
  have e1112 : g1084 10 = (.int .i64 11) := E1084.facts 10 (by decide)
  obtain ⟨q1113, p1114, l1115, o1116⟩ : ∃ q, g1084 8 = .pointer (some ⟨q, 0, none⟩) ∧ v1035.heap.size ≤ q ∧ OkB v1084 q 2 := E1084.facts 8 (by decide)
  have h1117 : w.heap.size ≤ q1113 := Nat.le_trans HB l1115
  have n1118 : q1022 ≠ q1113 := by omega
  have n1119 : q1028 ≠ q1113 := by omega
  have n1120 : q1053 ≠ q1113 := by omega
  have n1121 : q1060 ≠ q1113 := by omega
  obtain ⟨t1122, x1124, A1125, m1126, c1127, e1128, b1123⟩ := put_info (E1084.facts 9 (by decide)) p1114 f1110.shape
  have f1129 : Cz v1084 (.agg #[.bool x1124, .slice A1125 m1126 c1127]) 0 := f1110.at e1128.symm
  refine then_normal ?_
  refine wp_seq ?_
  have HB : w.heap.size ≤ v1084.heap.size := T1085.size
  refine wp_plan_any [.val (.az 1048576 z), .val (.az 1048576 z), .val (.az 1048576 u), .val (.az 1048576 u), .val (.tup2 (.cz 0) (.is (.int .i64 11))), .val (.tup2 (.cz 0) (.is (.int .i64 11))), .val (.cz 0), .val (.is (.int .i64 11)), .new 2 none, .put 10 39, .val (.is (.int .i64 11))] [] [] w.heap.size (by kernel_rfl) (by kernel_rfl) (by kernel_rfl) trivial HB ?_ ?_
  · exact ⟨fun s v h => does_val rfl rfl (x_load_z ((h.same 2 rfl).trans p1023) ((h.far q1022 b1090.lt (by simp)).trans b1090)) (f1094.mono ((Mono.drew _).trans h.mono)),
      fun s v h => does_call rfl rfl (x_call1 Try.call18) (own_k (h.dep 0 rfl) (by omega)),
      fun s v h => does_val rfl rfl (x_load_z ((h.same 3 rfl).trans p1029) ((h.far q1028 b1091.lt (by simp)).trans b1091)) (f1096.mono ((Mono.drew _).trans h.mono)),
      fun s v h => does_call rfl rfl (x_call1 Try.call18) (own_k (h.dep 2 rfl) (by omega)),
      fun s v h => does_call rfl rfl (x_call2 Try.call26) (zexact_z (h.dep 1 rfl) (h.dep 3 rfl) hu),
      fun s v h => does_val rfl rfl (x_move) (h.dep 4 rfl),
      fun s v h => by obtain ⟨r0, r1, e, f0, f1⟩ := tup2_at (h.dep 5 rfl); exact does_val rfl rfl (x_ext e rfl) f0,
      fun s v h => by obtain ⟨r0, r1, e, f0, f1⟩ := tup2_at (h.dep 5 rfl); exact does_val rfl rfl (x_ext e rfl) f1,
      fun s v h => does_new rfl rfl x_alloc_z (okz _ _ _ _) rfl (.inl rfl),
      fun s v h => by obtain ⟨q, e1, e2, e3⟩ := new_at (h.dep 8 rfl); exact does_put_z rfl rfl e1 (h.dep 6 rfl).shape e3 (Nat.le_trans HB e2),
      fun s v h => does_val rfl rfl (x_assign) (h.dep 7 rfl), trivial⟩
  intro g1130 ts v1130 hts E1130
  simp only [fillL, Nat.reduceAdd, List.setIfInBounds_toArray, List.set_cons_zero, List.set_cons_succ] at hts
  subst hts
  have T1131 : Below w.heap.size w v1130 := (below_toDrew T1085).trans E1130.below
  have l1132 : q1022 < v1084.heap.size := b1090.lt
  have l1133 : q1028 < v1084.heap.size := b1091.lt
  have l1134 : q1053 < v1084.heap.size := b1092.lt
  have l1135 : q1060 < v1084.heap.size := b1093.lt
  have l1136 : q1113 < v1084.heap.size := b1123.lt
  have b1137 : Bx v1130 q1022 24 #[.bool na0, .slice A0 n0 c0] := (E1130.far q1022 b1090.lt (by simp)).trans b1090
  have b1138 : Bx v1130 q1028 24 #[.bool na1, .slice A1 n1 c1] := (E1130.far q1028 b1091.lt (by simp)).trans b1091
  have b1139 : Bx v1130 q1053 t1068 #[.bool x1070, .slice A1071 m1072 c1073] := (E1130.far q1053 b1092.lt (by simp)).trans b1092
  have b1140 : Bx v1130 q1060 t1076 #[.bool x1078, .slice A1079 m1080 c1081] := (E1130.far q1060 b1093.lt (by simp)).trans b1093
  have b1141 : Bx v1130 q1113 t1122 #[.bool x1124, .slice A1125 m1126 c1127] := (E1130.far q1113 b1123.lt (by simp)).trans b1123
  have f1142 := f1094.mono ((Mono.drew _).trans E1130.mono)
  have f1143 := f1095.mono ((Mono.drew _).trans E1130.mono)
  have f1144 := f1096.mono ((Mono.drew _).trans E1130.mono)
  have f1145 := f1097.mono ((Mono.drew _).trans E1130.mono)
  have f1146 := f1098.mono ((Mono.drew _).trans E1130.mono)
  have f1147 := f1099.mono ((Mono.drew _).trans E1130.mono)
  have f1148 := f1100.mono ((Mono.drew _).trans E1130.mono)
  have f1149 := f1101.mono ((Mono.drew _).trans E1130.mono)
  have f1150 := f1102.mono ((Mono.drew _).trans E1130.mono)
  have f1151 := f1103.mono ((Mono.drew _).trans E1130.mono)
  have f1152 := f1104.mono ((Mono.drew _).trans E1130.mono)
  have f1153 := f1105.mono ((Mono.drew _).trans E1130.mono)
  have f1154 := f1106.mono ((Mono.drew _).trans E1130.mono)
  have f1155 := f1107.mono ((Mono.drew _).trans E1130.mono)
  have f1156 := f1108.mono ((Mono.drew _).trans E1130.mono)
  have f1157 := f1109.mono ((Mono.drew _).trans E1130.mono)
  have f1158 := f1110.mono ((Mono.drew _).trans E1130.mono)
  have f1159 := f1129.mono ((Mono.drew _).trans E1130.mono)
  have f1160 : Az 1048576 v1130 (g1130 0) z := E1130.facts 0 (by decide)
  have f1161 : Az 1048576 v1130 (g1130 1) z := E1130.facts 1 (by decide)
  have f1162 : Az 1048576 v1130 (g1130 2) u := E1130.facts 2 (by decide)
  have f1163 : Az 1048576 v1130 (g1130 3) u := E1130.facts 3 (by decide)
  have f1164 : Cz v1130 (g1130 6) 0 := E1130.facts 6 (by decide)
  have e1165 : g1130 7 = (.int .i64 11) := E1130.facts 7 (by decide)
  have e1166 : g1130 10 = (.int .i64 11) := E1130.facts 10 (by decide)
  obtain ⟨q1167, p1168, l1169, o1170⟩ : ∃ q, g1130 8 = .pointer (some ⟨q, 0, none⟩) ∧ v1084.heap.size ≤ q ∧ OkB v1130 q 2 := E1130.facts 8 (by decide)
  have h1171 : w.heap.size ≤ q1167 := Nat.le_trans HB l1169
  have n1172 : q1022 ≠ q1167 := by omega
  have n1173 : q1028 ≠ q1167 := by omega
  have n1174 : q1053 ≠ q1167 := by omega
  have n1175 : q1060 ≠ q1167 := by omega
  have n1176 : q1113 ≠ q1167 := by omega
  obtain ⟨t1177, x1179, A1180, m1181, c1182, e1183, b1178⟩ := put_info (E1130.facts 9 (by decide)) p1168 f1164.shape
  have f1184 : Cz v1130 (.agg #[.bool x1179, .slice A1180 m1181 c1182]) 0 := f1164.at e1183.symm
  refine then_normal ?_
  refine wp_seq ?_
  have HB : w.heap.size ≤ v1130.heap.size := T1131.size
  refine wp_plan_seq [.val (.az 1048576 z), .val (.az 1048576 u), .val (.tup2 (.cz 0) (.is (.int .i64 11))), .val (.tup2 (.cz 0) (.is (.int .i64 11))), .val (.cz 0), .val (.is (.int .i64 11)), .new 2 none, .put 12 45, .val (.is (.int .i64 11))] [] [] w.heap.size (by kernel_rfl) (by kernel_rfl) trivial HB ?_ ?_
  · exact ⟨fun s v h => does_val rfl rfl (x_load_z ((h.same 2 rfl).trans p1023) ((h.far q1022 b1137.lt (by simp)).trans b1137)) (f1142.mono h.mono),
      fun s v h => does_val rfl rfl (x_load_z ((h.same 3 rfl).trans p1029) ((h.far q1028 b1138.lt (by simp)).trans b1138)) (f1144.mono h.mono),
      fun s v h => does_call rfl rfl (x_call2 Try.call27) (r2exact_z (h.dep 0 rfl) (h.dep 1 rfl) (by omega) d0),
      fun s v h => does_val rfl rfl (x_move) (h.dep 2 rfl),
      fun s v h => by obtain ⟨r0, r1, e, f0, f1⟩ := tup2_at (h.dep 3 rfl); exact does_val rfl rfl (x_ext e rfl) f0,
      fun s v h => by obtain ⟨r0, r1, e, f0, f1⟩ := tup2_at (h.dep 3 rfl); exact does_val rfl rfl (x_ext e rfl) f1,
      fun s v h => does_new rfl rfl x_alloc_z (okz _ _ _ _) rfl (.inl rfl),
      fun s v h => by obtain ⟨q, e1, e2, e3⟩ := new_at (h.dep 6 rfl); exact does_put_z rfl rfl e1 (h.dep 4 rfl).shape e3 (Nat.le_trans HB e2),
      fun s v h => does_val rfl rfl (x_assign) (h.dep 5 rfl), trivial⟩
  intro g1185 ts v1185 hts E1185
  simp only [fillL, Nat.reduceAdd, List.setIfInBounds_toArray, List.set_cons_zero, List.set_cons_succ] at hts
  subst hts
  have T1186 : Below w.heap.size w v1185 := T1131.trans E1185.below
  have l1187 : q1022 < v1130.heap.size := b1137.lt
  have l1188 : q1028 < v1130.heap.size := b1138.lt
  have l1189 : q1053 < v1130.heap.size := b1139.lt
  have l1190 : q1060 < v1130.heap.size := b1140.lt
  have l1191 : q1113 < v1130.heap.size := b1141.lt
  have l1192 : q1167 < v1130.heap.size := b1178.lt
  have b1193 : Bx v1185 q1022 24 #[.bool na0, .slice A0 n0 c0] := (E1185.far q1022 b1137.lt (by simp)).trans b1137
  have b1194 : Bx v1185 q1028 24 #[.bool na1, .slice A1 n1 c1] := (E1185.far q1028 b1138.lt (by simp)).trans b1138
  have b1195 : Bx v1185 q1053 t1068 #[.bool x1070, .slice A1071 m1072 c1073] := (E1185.far q1053 b1139.lt (by simp)).trans b1139
  have b1196 : Bx v1185 q1060 t1076 #[.bool x1078, .slice A1079 m1080 c1081] := (E1185.far q1060 b1140.lt (by simp)).trans b1140
  have b1197 : Bx v1185 q1113 t1122 #[.bool x1124, .slice A1125 m1126 c1127] := (E1185.far q1113 b1141.lt (by simp)).trans b1141
  have b1198 : Bx v1185 q1167 t1177 #[.bool x1179, .slice A1180 m1181 c1182] := (E1185.far q1167 b1178.lt (by simp)).trans b1178
  have f1199 := f1142.mono E1185.mono
  have f1200 := f1143.mono E1185.mono
  have f1201 := f1144.mono E1185.mono
  have f1202 := f1145.mono E1185.mono
  have f1203 := f1146.mono E1185.mono
  have f1204 := f1147.mono E1185.mono
  have f1205 := f1148.mono E1185.mono
  have f1206 := f1149.mono E1185.mono
  have f1207 := f1150.mono E1185.mono
  have f1208 := f1151.mono E1185.mono
  have f1209 := f1152.mono E1185.mono
  have f1210 := f1153.mono E1185.mono
  have f1211 := f1154.mono E1185.mono
  have f1212 := f1155.mono E1185.mono
  have f1213 := f1156.mono E1185.mono
  have f1214 := f1157.mono E1185.mono
  have f1215 := f1158.mono E1185.mono
  have f1216 := f1159.mono E1185.mono
  have f1217 := f1160.mono E1185.mono
  have f1218 := f1161.mono E1185.mono
  have f1219 := f1162.mono E1185.mono
  have f1220 := f1163.mono E1185.mono
  have f1221 := f1164.mono E1185.mono
  have f1222 := f1184.mono E1185.mono
  have f1223 : Az 1048576 v1185 (g1185 0) z := E1185.facts 0 (by decide)
  have f1224 : Az 1048576 v1185 (g1185 1) u := E1185.facts 1 (by decide)
  have f1225 : Cz v1185 (g1185 4) 0 := E1185.facts 4 (by decide)
  have e1226 : g1185 5 = (.int .i64 11) := E1185.facts 5 (by decide)
  have e1227 : g1185 8 = (.int .i64 11) := E1185.facts 8 (by decide)
  obtain ⟨q1228, p1229, l1230, o1231⟩ : ∃ q, g1185 6 = .pointer (some ⟨q, 0, none⟩) ∧ v1130.heap.size ≤ q ∧ OkB v1185 q 2 := E1185.facts 6 (by decide)
  have h1232 : w.heap.size ≤ q1228 := Nat.le_trans HB l1230
  have n1233 : q1022 ≠ q1228 := by omega
  have n1234 : q1028 ≠ q1228 := by omega
  have n1235 : q1053 ≠ q1228 := by omega
  have n1236 : q1060 ≠ q1228 := by omega
  have n1237 : q1113 ≠ q1228 := by omega
  have n1238 : q1167 ≠ q1228 := by omega
  obtain ⟨t1239, x1241, A1242, m1243, c1244, e1245, b1240⟩ := put_info (E1185.facts 7 (by decide)) p1229 f1225.shape
  have f1246 : Cz v1185 (.agg #[.bool x1241, .slice A1242 m1243 c1244]) 0 := f1225.at e1245.symm
  refine then_normal ?_
  refine wp_seq ?_
  refine wp_seq ?_
  have HB : w.heap.size ≤ v1185.heap.size := T1186.size
  refine wp_plan_seq [.val (.is (.int .i64 11)), .val (.is (.int .i64 11)), .val (.is (.bool false)), .val (.is (.bool false)), .val (.cz 0), .val (.cz 0), .val (.is (.bool true)), .val (.is (.bool false)), .val (.is (.bool false))] [] [] w.heap.size (by kernel_rfl) (by kernel_rfl) trivial HB ?_ ?_
  · exact ⟨fun s v h => does_val rfl rfl (x_move) ((h.same 11 rfl).trans e1166),
      fun s v h => does_val rfl rfl (x_move) ((h.same 13 rfl).trans e1227),
      fun s v h => does_val rfl rfl (x_neq_int (h.dep 0 rfl) (h.dep 1 rfl)) rfl,
      fun s v h => does_val rfl rfl (x_move) (h.dep 2 rfl),
      fun s v h => does_val rfl (wanted_by (b := false) (want := false) rfl rfl (h.dep 3 rfl)) (x_load_z ((h.same 10 rfl).trans p1168) ((h.far q1167 b1198.lt (by simp)).trans b1198)) (f1222.mono h.mono),
      fun s v h => does_val rfl (wanted_by (b := false) (want := false) rfl rfl (h.dep 3 rfl)) (x_load_z ((h.same 12 rfl).trans p1229) ((h.far q1228 b1240.lt (by simp)).trans b1240)) (f1246.mono h.mono),
      fun s v h => does_call rfl (wanted_by (b := false) (want := false) rfl rfl (h.dep 3 rfl)) (x_call2 Try.call12) (eq_k (h.dep 4 rfl) (h.dep 5 rfl) rfl),
      fun s v h => does_val rfl (wanted_by (b := false) (want := false) rfl rfl (h.dep 3 rfl)) (x_not (h.dep 6 rfl)) rfl,
      fun s v h => does_val rfl rfl (x_pick (h.dep 3 rfl)) (h.dep 7 rfl), trivial⟩
  intro g1247 ts v1247 hts E1247
  simp only [fillL, Nat.reduceAdd, List.setIfInBounds_toArray, List.set_cons_zero, List.set_cons_succ] at hts
  subst hts
  have T1248 : Below w.heap.size w v1247 := T1186.trans E1247.below
  have l1249 : q1022 < v1185.heap.size := b1193.lt
  have l1250 : q1028 < v1185.heap.size := b1194.lt
  have l1251 : q1053 < v1185.heap.size := b1195.lt
  have l1252 : q1060 < v1185.heap.size := b1196.lt
  have l1253 : q1113 < v1185.heap.size := b1197.lt
  have l1254 : q1167 < v1185.heap.size := b1198.lt
  have l1255 : q1228 < v1185.heap.size := b1240.lt
  have b1256 : Bx v1247 q1022 24 #[.bool na0, .slice A0 n0 c0] := (E1247.far q1022 b1193.lt (by simp)).trans b1193
  have b1257 : Bx v1247 q1028 24 #[.bool na1, .slice A1 n1 c1] := (E1247.far q1028 b1194.lt (by simp)).trans b1194
  have b1258 : Bx v1247 q1053 t1068 #[.bool x1070, .slice A1071 m1072 c1073] := (E1247.far q1053 b1195.lt (by simp)).trans b1195
  have b1259 : Bx v1247 q1060 t1076 #[.bool x1078, .slice A1079 m1080 c1081] := (E1247.far q1060 b1196.lt (by simp)).trans b1196
  have b1260 : Bx v1247 q1113 t1122 #[.bool x1124, .slice A1125 m1126 c1127] := (E1247.far q1113 b1197.lt (by simp)).trans b1197
  have b1261 : Bx v1247 q1167 t1177 #[.bool x1179, .slice A1180 m1181 c1182] := (E1247.far q1167 b1198.lt (by simp)).trans b1198
  have b1262 : Bx v1247 q1228 t1239 #[.bool x1241, .slice A1242 m1243 c1244] := (E1247.far q1228 b1240.lt (by simp)).trans b1240
  have f1263 := f1199.mono E1247.mono
  have f1264 := f1200.mono E1247.mono
  have f1265 := f1201.mono E1247.mono
  have f1266 := f1202.mono E1247.mono
  have f1267 := f1203.mono E1247.mono
  have f1268 := f1204.mono E1247.mono
  have f1269 := f1205.mono E1247.mono
  have f1270 := f1206.mono E1247.mono
  have f1271 := f1207.mono E1247.mono
  have f1272 := f1208.mono E1247.mono
  have f1273 := f1209.mono E1247.mono
  have f1274 := f1210.mono E1247.mono
  have f1275 := f1211.mono E1247.mono
  have f1276 := f1212.mono E1247.mono
  have f1277 := f1213.mono E1247.mono
  have f1278 := f1214.mono E1247.mono
  have f1279 := f1215.mono E1247.mono
  have f1280 := f1216.mono E1247.mono
  have f1281 := f1217.mono E1247.mono
  have f1282 := f1218.mono E1247.mono
  have f1283 := f1219.mono E1247.mono
  have f1284 := f1220.mono E1247.mono
  have f1285 := f1221.mono E1247.mono
  have f1286 := f1222.mono E1247.mono
  have f1287 := f1223.mono E1247.mono
  have f1288 := f1224.mono E1247.mono
  have f1289 := f1225.mono E1247.mono
  have f1290 := f1246.mono E1247.mono
  have e1291 : g1247 0 = (.int .i64 11) := E1247.facts 0 (by decide)
  have e1292 : g1247 1 = (.int .i64 11) := E1247.facts 1 (by decide)
  have e1293 : g1247 2 = (.bool false) := E1247.facts 2 (by decide)
  have e1294 : g1247 3 = (.bool false) := E1247.facts 3 (by decide)
  have f1295 : Cz v1247 (g1247 4) 0 := E1247.facts 4 (by decide)
  have f1296 : Cz v1247 (g1247 5) 0 := E1247.facts 5 (by decide)
  have e1297 : g1247 6 = (.bool true) := E1247.facts 6 (by decide)
  have e1298 : g1247 7 = (.bool false) := E1247.facts 7 (by decide)
  have e1299 : g1247 8 = (.bool false) := E1247.facts 8 (by decide)
  refine then_normal ?_
  refine wp_cond_false e1299 ?_
  refine wp_skip ?_
  refine then_normal ?_
  refine wp_seq ?_
  refine wp_seq ?_
  have HB : w.heap.size ≤ v1247.heap.size := T1248.size
  refine wp_plan_seq [.val (.az 1048576 u), .val (.is (.int .i64 u.sign)), .val (.is (.bool true))] [] [] w.heap.size (by kernel_rfl) (by kernel_rfl) trivial HB ?_ ?_
  · exact ⟨fun s v h => does_val rfl rfl (x_load_z ((h.same 3 rfl).trans p1029) ((h.far q1028 b1257.lt (by simp)).trans b1257)) (f1265.mono h.mono),
      fun s v h => does_call rfl rfl (x_call1 Try.call28) (r2sign_k (h.dep 0 rfl) (by omega)),
      fun s v h => does_val rfl rfl (x_eql_int (h.dep 1 rfl) rfl) (congrArg Value.bool d0), trivial⟩
  intro g1300 ts v1300 hts E1300
  simp only [fillL, Nat.reduceAdd, List.setIfInBounds_toArray, List.set_cons_zero, List.set_cons_succ] at hts
  subst hts
  have T1301 : Below w.heap.size w v1300 := T1248.trans E1300.below
  have l1302 : q1022 < v1247.heap.size := b1256.lt
  have l1303 : q1028 < v1247.heap.size := b1257.lt
  have l1304 : q1053 < v1247.heap.size := b1258.lt
  have l1305 : q1060 < v1247.heap.size := b1259.lt
  have l1306 : q1113 < v1247.heap.size := b1260.lt
  have l1307 : q1167 < v1247.heap.size := b1261.lt
  have l1308 : q1228 < v1247.heap.size := b1262.lt
  have b1309 : Bx v1300 q1022 24 #[.bool na0, .slice A0 n0 c0] := (E1300.far q1022 b1256.lt (by simp)).trans b1256
  have b1310 : Bx v1300 q1028 24 #[.bool na1, .slice A1 n1 c1] := (E1300.far q1028 b1257.lt (by simp)).trans b1257
  have b1311 : Bx v1300 q1053 t1068 #[.bool x1070, .slice A1071 m1072 c1073] := (E1300.far q1053 b1258.lt (by simp)).trans b1258
  have b1312 : Bx v1300 q1060 t1076 #[.bool x1078, .slice A1079 m1080 c1081] := (E1300.far q1060 b1259.lt (by simp)).trans b1259
  have b1313 : Bx v1300 q1113 t1122 #[.bool x1124, .slice A1125 m1126 c1127] := (E1300.far q1113 b1260.lt (by simp)).trans b1260
  have b1314 : Bx v1300 q1167 t1177 #[.bool x1179, .slice A1180 m1181 c1182] := (E1300.far q1167 b1261.lt (by simp)).trans b1261
  have b1315 : Bx v1300 q1228 t1239 #[.bool x1241, .slice A1242 m1243 c1244] := (E1300.far q1228 b1262.lt (by simp)).trans b1262
  have f1316 := f1263.mono E1300.mono
  have f1317 := f1264.mono E1300.mono
  have f1318 := f1265.mono E1300.mono
  have f1319 := f1266.mono E1300.mono
  have f1320 := f1267.mono E1300.mono
  have f1321 := f1268.mono E1300.mono
  have f1322 := f1269.mono E1300.mono
  have f1323 := f1270.mono E1300.mono
  have f1324 := f1271.mono E1300.mono
  have f1325 := f1272.mono E1300.mono
  have f1326 := f1273.mono E1300.mono
  have f1327 := f1274.mono E1300.mono
  have f1328 := f1275.mono E1300.mono
  have f1329 := f1276.mono E1300.mono
  have f1330 := f1277.mono E1300.mono
  have f1331 := f1278.mono E1300.mono
  have f1332 := f1279.mono E1300.mono
  have f1333 := f1280.mono E1300.mono
  have f1334 := f1281.mono E1300.mono
  have f1335 := f1282.mono E1300.mono
  have f1336 := f1283.mono E1300.mono
  have f1337 := f1284.mono E1300.mono
  have f1338 := f1285.mono E1300.mono
  have f1339 := f1286.mono E1300.mono
  have f1340 := f1287.mono E1300.mono
  have f1341 := f1288.mono E1300.mono
  have f1342 := f1289.mono E1300.mono
  have f1343 := f1290.mono E1300.mono
  have f1344 := f1295.mono E1300.mono
  have f1345 := f1296.mono E1300.mono
  have f1346 : Az 1048576 v1300 (g1300 0) u := E1300.facts 0 (by decide)
  have e1347 : g1300 1 = (.int .i64 u.sign) := E1300.facts 1 (by decide)
  have e1348 : g1300 2 = (.bool true) := E1300.facts 2 (by decide)
  refine then_normal ?_
  refine wp_cond_true e1348 ?_
  refine wp_seq ?_
  have HB : w.heap.size ≤ v1300.heap.size := T1301.size
  refine wp_plan_seq [.val (.is (.int .i64 11)), .val (.is (.bool true)), .val (.is (.bool true)), .val (.is (.int .i64 11)), .val (.is (.bool true)), .val (.is (.bool true)), .val (.is (.bool true)), .val (.cz 0), .val (.is (.agg #[.bool false, .slice none 0 0])), .val (.is (.bool true)), .val (.is (.bool true)), .val (.is (.bool true)), .val (.cz 0), .val (.is (.agg #[.bool false, .slice none 0 0])), .val (.is (.bool true)), .val (.is (.bool true)), .val (.is (.bool true)), .val (.cz 0), .val (.is (.agg #[.bool false, .slice none 0 0])), .val (.is (.bool true)), .val (.is (.bool true)), .val (.is (.bool true))] [] [] w.heap.size (by kernel_rfl) (by kernel_rfl) trivial HB ?_ ?_
  · exact ⟨fun s v h => does_val rfl rfl (x_move) ((h.same 7 rfl).trans e1052),
      fun s v h => does_val rfl rfl (x_eql_err (h.dep 0 rfl) rfl) rfl,
      fun s v h => does_val rfl rfl (x_move) (h.dep 1 rfl),
      fun s v h => does_val rfl (wanted_by (b := true) (want := true) rfl rfl (h.dep 2 rfl)) (x_move) ((h.same 9 rfl).trans e1112),
      fun s v h => does_val rfl (wanted_by (b := true) (want := true) rfl rfl (h.dep 2 rfl)) (x_eql_err (h.dep 3 rfl) rfl) rfl,
      fun s v h => does_val rfl rfl (x_pick (h.dep 2 rfl)) (h.dep 4 rfl),
      fun s v h => does_val rfl rfl (x_move) (h.dep 5 rfl),
      fun s v h => does_val rfl (wanted_by (b := true) (want := true) rfl rfl (h.dep 6 rfl)) (x_load_z ((h.same 5 rfl).trans p1054) ((h.far q1053 b1311.lt (by simp)).trans b1311)) (f1326.mono h.mono),
      fun s v h => does_val rfl (wanted_by (b := true) (want := true) rfl rfl (h.dep 6 rfl)) x_build0 rfl,
      fun s v h => does_call rfl (wanted_by (b := true) (want := true) rfl rfl (h.dep 6 rfl)) (x_call2 Try.call12) (eq_k (h.dep 7 rfl) ((cz_zero _).at (h.dep 8 rfl)) rfl),
      fun s v h => does_val rfl rfl (x_pick (h.dep 6 rfl)) (h.dep 9 rfl),
      fun s v h => does_val rfl rfl (x_move) (h.dep 10 rfl),
      fun s v h => does_val rfl (wanted_by (b := true) (want := true) rfl rfl (h.dep 11 rfl)) (x_load_z ((h.same 6 rfl).trans p1061) ((h.far q1060 b1312.lt (by simp)).trans b1312)) (f1327.mono h.mono),
      fun s v h => does_val rfl (wanted_by (b := true) (want := true) rfl rfl (h.dep 11 rfl)) x_build0 rfl,
      fun s v h => does_call rfl (wanted_by (b := true) (want := true) rfl rfl (h.dep 11 rfl)) (x_call2 Try.call12) (eq_k (h.dep 12 rfl) ((cz_zero _).at (h.dep 13 rfl)) rfl),
      fun s v h => does_val rfl rfl (x_pick (h.dep 11 rfl)) (h.dep 14 rfl),
      fun s v h => does_val rfl rfl (x_move) (h.dep 15 rfl),
      fun s v h => does_val rfl (wanted_by (b := true) (want := true) rfl rfl (h.dep 16 rfl)) (x_load_z ((h.same 8 rfl).trans p1114) ((h.far q1113 b1313.lt (by simp)).trans b1313)) (f1333.mono h.mono),
      fun s v h => does_val rfl (wanted_by (b := true) (want := true) rfl rfl (h.dep 16 rfl)) x_build0 rfl,
      fun s v h => does_call rfl (wanted_by (b := true) (want := true) rfl rfl (h.dep 16 rfl)) (x_call2 Try.call12) (eq_k (h.dep 17 rfl) ((cz_zero _).at (h.dep 18 rfl)) rfl),
      fun s v h => does_val rfl rfl (x_pick (h.dep 16 rfl)) (h.dep 19 rfl),
      fun s v h => does_val rfl rfl (x_assign) (h.dep 20 rfl), trivial⟩
  intro g1349 ts v1349 hts E1349
  simp only [fillL, Nat.reduceAdd, List.setIfInBounds_toArray, List.set_cons_zero, List.set_cons_succ] at hts
  subst hts
  have T1350 : Below w.heap.size w v1349 := T1301.trans E1349.below
  have l1351 : q1022 < v1300.heap.size := b1309.lt
  have l1352 : q1028 < v1300.heap.size := b1310.lt
  have l1353 : q1053 < v1300.heap.size := b1311.lt
  have l1354 : q1060 < v1300.heap.size := b1312.lt
  have l1355 : q1113 < v1300.heap.size := b1313.lt
  have l1356 : q1167 < v1300.heap.size := b1314.lt
  have l1357 : q1228 < v1300.heap.size := b1315.lt
  have b1358 : Bx v1349 q1022 24 #[.bool na0, .slice A0 n0 c0] := (E1349.far q1022 b1309.lt (by simp)).trans b1309
  have b1359 : Bx v1349 q1028 24 #[.bool na1, .slice A1 n1 c1] := (E1349.far q1028 b1310.lt (by simp)).trans b1310
  have b1360 : Bx v1349 q1053 t1068 #[.bool x1070, .slice A1071 m1072 c1073] := (E1349.far q1053 b1311.lt (by simp)).trans b1311
  have b1361 : Bx v1349 q1060 t1076 #[.bool x1078, .slice A1079 m1080 c1081] := (E1349.far q1060 b1312.lt (by simp)).trans b1312
  have b1362 : Bx v1349 q1113 t1122 #[.bool x1124, .slice A1125 m1126 c1127] := (E1349.far q1113 b1313.lt (by simp)).trans b1313
  have b1363 : Bx v1349 q1167 t1177 #[.bool x1179, .slice A1180 m1181 c1182] := (E1349.far q1167 b1314.lt (by simp)).trans b1314
  have b1364 : Bx v1349 q1228 t1239 #[.bool x1241, .slice A1242 m1243 c1244] := (E1349.far q1228 b1315.lt (by simp)).trans b1315
  have f1365 := f1316.mono E1349.mono
  have f1366 := f1317.mono E1349.mono
  have f1367 := f1318.mono E1349.mono
  have f1368 := f1319.mono E1349.mono
  have f1369 := f1320.mono E1349.mono
  have f1370 := f1321.mono E1349.mono
  have f1371 := f1322.mono E1349.mono
  have f1372 := f1323.mono E1349.mono
  have f1373 := f1324.mono E1349.mono
  have f1374 := f1325.mono E1349.mono
  have f1375 := f1326.mono E1349.mono
  have f1376 := f1327.mono E1349.mono
  have f1377 := f1328.mono E1349.mono
  have f1378 := f1329.mono E1349.mono
  have f1379 := f1330.mono E1349.mono
  have f1380 := f1331.mono E1349.mono
  have f1381 := f1332.mono E1349.mono
  have f1382 := f1333.mono E1349.mono
  have f1383 := f1334.mono E1349.mono
  have f1384 := f1335.mono E1349.mono
  have f1385 := f1336.mono E1349.mono
  have f1386 := f1337.mono E1349.mono
  have f1387 := f1338.mono E1349.mono
  have f1388 := f1339.mono E1349.mono
  have f1389 := f1340.mono E1349.mono
  have f1390 := f1341.mono E1349.mono
  have f1391 := f1342.mono E1349.mono
  have f1392 := f1343.mono E1349.mono
  have f1393 := f1344.mono E1349.mono
  have f1394 := f1345.mono E1349.mono
  have f1395 := f1346.mono E1349.mono
  have e1396 : g1349 0 = (.int .i64 11) := E1349.facts 0 (by decide)
  have e1397 : g1349 1 = (.bool true) := E1349.facts 1 (by decide)
  have e1398 : g1349 2 = (.bool true) := E1349.facts 2 (by decide)
  have e1399 : g1349 3 = (.int .i64 11) := E1349.facts 3 (by decide)
  have e1400 : g1349 4 = (.bool true) := E1349.facts 4 (by decide)
  have e1401 : g1349 5 = (.bool true) := E1349.facts 5 (by decide)
  have e1402 : g1349 6 = (.bool true) := E1349.facts 6 (by decide)
  have f1403 : Cz v1349 (g1349 7) 0 := E1349.facts 7 (by decide)
  have e1404 : g1349 8 = (.agg #[.bool false, .slice none 0 0]) := E1349.facts 8 (by decide)
  have e1405 : g1349 9 = (.bool true) := E1349.facts 9 (by decide)
  have e1406 : g1349 10 = (.bool true) := E1349.facts 10 (by decide)
  have e1407 : g1349 11 = (.bool true) := E1349.facts 11 (by decide)
  have f1408 : Cz v1349 (g1349 12) 0 := E1349.facts 12 (by decide)
  have e1409 : g1349 13 = (.agg #[.bool false, .slice none 0 0]) := E1349.facts 13 (by decide)
  have e1410 : g1349 14 = (.bool true) := E1349.facts 14 (by decide)
  have e1411 : g1349 15 = (.bool true) := E1349.facts 15 (by decide)
  have e1412 : g1349 16 = (.bool true) := E1349.facts 16 (by decide)
  have f1413 : Cz v1349 (g1349 17) 0 := E1349.facts 17 (by decide)
  have e1414 : g1349 18 = (.agg #[.bool false, .slice none 0 0]) := E1349.facts 18 (by decide)
  have e1415 : g1349 19 = (.bool true) := E1349.facts 19 (by decide)
  have e1416 : g1349 20 = (.bool true) := E1349.facts 20 (by decide)
  have e1417 : g1349 21 = (.bool true) := E1349.facts 21 (by decide)
  refine then_normal ?_
  refine wp_ret ?_
  exact bodyPost_ret (results_tmp (t := 4) rfl _ _ _) rfl ⟨_, rfl, e1417, T1350⟩

theorem zintQuotients_law (w : World) (x : Value) (z : Int) (y : Value) (u : Int) (h0 : Az 1048576 w x z) (h1 : Az 1048576 w y u) :
    Calls Try.prog 5 #[x, y] w fun e w' => e = .returned (.bool true) ∧ Below w.heap.size w w' := by
  have fin : Calls Try.prog 5 #[x, y] w (Ret (.is (.bool true)) w) := by
    by_cases hu : u = 0
    · exact zq_c h0 h1 hu (sign_eq_zero.2 hu)
    · have d0 : (u.sign == 0) = false := by
        cases h : (u.sign == 0) with
        | false => rfl
        | true => exact absurd (sign_eq_zero.1 h) hu
      cases h : ((md z u).sign == 0) with
      | true => exact zq_a h0 h1 hu d0 h
      | false => exact zq_b h0 h1 hu d0 h
  refine fin.mono fun e w' h => ?_
  obtain ⟨r, e, hr, hB⟩ := h
  have hr : r = .bool true := hr
  exact ⟨by rw [e, hr], hB⟩
end Go.Proofs.Ytkidgeeedigkhaa
