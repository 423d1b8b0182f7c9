/- Near, Exact, Root, Two, Compare. -/
import Derived.Test.YtkidgeeedigkhaaY2
namespace Go.Proofs.Ytkidgeeedigkhaa
open Go.RowKit

theorem ndiv0_k {w : World} {x y : Value} {a b N M : Nat} (h : Nz N w x a) (h' : Nz M w y b) (hb : b = 0) : Calls Try.prog 63 #[x, y] w (Ret (.tup3 (.is (.slice none 0 0)) (.is (.slice none 0 0)) (.is (.int .i64 11))) w) := by
  subst hb
  obtain ⟨A, n, c, l, rfl, hS, rfl, hn⟩ := h
  obtain ⟨A', n', c', l', rfl, hS', hz, hn'⟩ := h'
  refine (div_zero w A n c l A' n' c' l' hS hS' hz).mono fun _ _ h => ?_
  obtain ⟨rfl, rfl⟩ := h
  exact ⟨_, rfl, ⟨_, _, _, rfl, rfl, rfl, rfl⟩, Below.refl _ _⟩

set_option maxHeartbeats 4000000 in
set_option maxRecDepth 8000 in
theorem zfloor0_k {w : World} {x : Value} {z : Int} {N0 : Nat} (h0 : Az N0 w x z) {y : Value} {u : Int} {N1 : Nat} (h1 : Az N1 w y u) (hu : u = 0)  : Calls Try.prog 24 #[x, y] w (Ret (.tup3 (.cz 0) (.cz 0) (.is (.int .i64 11))) w) := by
  have la0 := h0.len
  obtain ⟨na0, A0, n0, c0, M0, rfl, hm0, hz0⟩ := h0.parts
  have la1 := h1.len
  obtain ⟨na1, A1, n1, c1, M1, rfl, hm1, hz1⟩ := h1.parts
  have hM0 : M1 = 0 := by have := congrArg Int.natAbs hz1; rw [zof_abs, hu] at this; exact this
  have T0 : Below w.heap.size w w := Below.refl _ _
  go_enter Try.func24, Try.ntmps24
  refine wp_seq ?_
  have HB : w.heap.size ≤ w.heap.size := T0.size
  refine wp_plan_seq [.new 2 (some (24, #[.bool na0, .slice A0 n0 c0])), .new 2 (some (24, #[.bool na1, .slice A1 n1 c1])), .new 2 (some (24, #[.bool false, .slice none 0 0])), .new 2 (some (24, #[.bool false, .slice none 0 0])), .val (.is (.int .i64 0))] [] [] w.heap.size (by kernel_rfl) (by kernel_rfl) trivial HB ?_ ?_
  · exact ⟨fun s v h => does_new rfl rfl (x_box_z (h.same 0 rfl)) (okz _ _ _ _) rfl (.inr rfl),
      fun s v h => does_new rfl rfl (x_box_z (h.same 1 rfl)) (okz _ _ _ _) rfl (.inr rfl),
      fun s v h => does_new rfl rfl x_alloc_z (okz _ _ _ _) rfl (.inr rfl),
      fun s v h => does_new rfl rfl x_alloc_z (okz _ _ _ _) rfl (.inr rfl),
      fun s v h => does_val rfl rfl (x_assign) rfl, trivial⟩
  intro g1 ts v1 hts E1
  simp only [fillL, Nat.reduceAdd, List.setIfInBounds_toArray, List.set_cons_zero, List.set_cons_succ] at hts
  subst hts
  have T2 : Below w.heap.size w v1 := T0.trans E1.below
  have f4 := hm0.mono E1.mono
  have f6 := hm1.mono E1.mono
  obtain ⟨q8, p9, l10, o11, b12⟩ : ∃ q, g1 0 = .pointer (some ⟨q, 0, none⟩) ∧ w.heap.size ≤ q ∧ OkB v1 q 2 ∧ Bx v1 q 24 #[.bool na0, .slice A0 n0 c0] := E1.facts 0 (by decide)
  have h13 : w.heap.size ≤ q8 := Nat.le_trans HB l10
  obtain ⟨q14, p15, l16, o17, b18⟩ : ∃ q, g1 1 = .pointer (some ⟨q, 0, none⟩) ∧ w.heap.size ≤ q ∧ OkB v1 q 2 ∧ Bx v1 q 24 #[.bool na1, .slice A1 n1 c1] := E1.facts 1 (by decide)
  have h19 : w.heap.size ≤ q14 := Nat.le_trans HB l16
  obtain ⟨q21, p22, l23, o24, b25⟩ : ∃ q, g1 2 = .pointer (some ⟨q, 0, none⟩) ∧ w.heap.size ≤ q ∧ OkB v1 q 2 ∧ Bx v1 q 24 #[.bool false, .slice none 0 0] := E1.facts 2 (by decide)
  have h27 : w.heap.size ≤ q21 := Nat.le_trans HB l23
  obtain ⟨q30, p31, l32, o33, b34⟩ : ∃ q, g1 3 = .pointer (some ⟨q, 0, none⟩) ∧ w.heap.size ≤ q ∧ OkB v1 q 2 ∧ Bx v1 q 24 #[.bool false, .slice none 0 0] := E1.facts 3 (by decide)
  have h36 : w.heap.size ≤ q30 := Nat.le_trans HB l32
  have n39 : q21 ≠ q30 := apart_ne (E1.apart 2 3 (by decide) (by decide) (by decide) ⟨_, _, rfl⟩ ⟨_, _, rfl⟩) p22 p31
  refine then_normal ?_
  refine wp_seq ?_
  have HB : w.heap.size ≤ v1.heap.size := T2.size
  refine wp_plan_seq [.val (.is (.pointer (some ⟨q8, 1, none⟩))), .val (.nz N0 M0), .val (.is (.pointer (some ⟨q14, 1, none⟩))), .val (.nz N1 M1), .val (.tup3 (.is (.slice none 0 0)) (.is (.slice none 0 0)) (.is (.int .i64 11))), .val (.tup3 (.is (.slice none 0 0)) (.is (.slice none 0 0)) (.is (.int .i64 11))), .val (.is (.slice none 0 0)), .val (.is (.slice none 0 0)), .val (.is (.int .i64 11)), .val (.is (.slice none 0 0)), .val (.is (.slice none 0 0)), .val (.is (.int .i64 11))] [] [] w.heap.size (by kernel_rfl) (by kernel_rfl) trivial HB ?_ ?_
  · exact ⟨fun s v h => does_val rfl rfl (x_fld (by decide) ((h.same 2 rfl).trans p9)) rfl,
      fun s v h => does_val rfl rfl (x_load_s (h.dep 0 rfl) ((h.far q8 b12.lt (by simp)).trans b12)) (f4.mono h.mono),
      fun s v h => does_val rfl rfl (x_fld (by decide) ((h.same 3 rfl).trans p15)) rfl,
      fun s v h => does_val rfl rfl (x_load_s (h.dep 2 rfl) ((h.far q14 b18.lt (by simp)).trans b18)) (f6.mono h.mono),
      fun s v h => does_call rfl rfl (x_call2 Try.call63) (ndiv0_k (h.dep 1 rfl) (h.dep 3 rfl) hM0),
      fun s v h => does_val rfl rfl (x_move) (h.dep 4 rfl),
      fun s v h => by obtain ⟨r0, r1, r2, e, f0, f1, f2⟩ := tup3_at (h.dep 5 rfl); exact does_val rfl rfl (x_ext e rfl) f0,
      fun s v h => by obtain ⟨r0, r1, r2, e, f0, f1, f2⟩ := tup3_at (h.dep 5 rfl); exact does_val rfl rfl (x_ext e rfl) f1,
      fun s v h => by obtain ⟨r0, r1, r2, e, f0, f1, f2⟩ := tup3_at (h.dep 5 rfl); exact does_val rfl rfl (x_ext e rfl) f2,
      fun s v h => does_val rfl rfl (x_assign) (h.dep 6 rfl),
      fun s v h => does_val rfl rfl (x_assign) (h.dep 7 rfl),
      fun s v h => does_val rfl rfl (x_assign) (h.dep 8 rfl), trivial⟩
  intro g40 ts v40 hts E40
  simp only [fillL, Nat.reduceAdd, List.setIfInBounds_toArray, List.set_cons_zero, List.set_cons_succ] at hts
  subst hts
  have T41 : Below w.heap.size w v40 := T2.trans E40.below
  have l42 : q8 < v1.heap.size := b12.lt
  have l43 : q14 < v1.heap.size := b18.lt
  have l44 : q21 < v1.heap.size := b25.lt
  have l45 : q30 < v1.heap.size := b34.lt
  have b46 : Bx v40 q8 24 #[.bool na0, .slice A0 n0 c0] := (E40.far q8 b12.lt (by simp)).trans b12
  have b47 : Bx v40 q14 24 #[.bool na1, .slice A1 n1 c1] := (E40.far q14 b18.lt (by simp)).trans b18
  have b48 : Bx v40 q21 24 #[.bool false, .slice none 0 0] := (E40.far q21 b25.lt (by simp)).trans b25
  have b49 : Bx v40 q30 24 #[.bool false, .slice none 0 0] := (E40.far q30 b34.lt (by simp)).trans b34
  have e63 : g40 11 = (.int .i64 11) := E40.facts 11 (by decide)
  refine then_normal ?_
  refine wp_seq ?_
  refine wp_seq ?_
  have HB : w.heap.size ≤ v40.heap.size := T41.size
  refine wp_plan_seq [.val (.is (.int .i64 11)), .val (.is (.bool true))] [] [] w.heap.size (by kernel_rfl) (by kernel_rfl) trivial HB ?_ ?_
  · exact ⟨fun s v h => does_val rfl rfl (x_move) ((h.same 9 rfl).trans e63),
      fun s v h => does_val rfl rfl (x_neq_err (h.dep 0 rfl) rfl) rfl, trivial⟩
  intro g64 ts v64 hts E64
  simp only [fillL, Nat.reduceAdd, List.setIfInBounds_toArray, List.set_cons_zero, List.set_cons_succ] at hts
  subst hts
  have T65 : Below w.heap.size w v64 := T41.trans E64.below
  have l66 : q8 < v40.heap.size := b46.lt
  have l67 : q14 < v40.heap.size := b47.lt
  have l68 : q21 < v40.heap.size := b48.lt
  have l69 : q30 < v40.heap.size := b49.lt
  have b70 : Bx v64 q8 24 #[.bool na0, .slice A0 n0 c0] := (E64.far q8 b46.lt (by simp)).trans b46
  have b71 : Bx v64 q14 24 #[.bool na1, .slice A1 n1 c1] := (E64.far q14 b47.lt (by simp)).trans b47
  have b72 : Bx v64 q21 24 #[.bool false, .slice none 0 0] := (E64.far q21 b48.lt (by simp)).trans b48
  have b73 : Bx v64 q30 24 #[.bool false, .slice none 0 0] := (E64.far q30 b49.lt (by simp)).trans b49
  have e83 : g64 1 = (.bool true) := E64.facts 1 (by decide)
  refine then_normal ?_
  refine wp_cond_true e83 ?_
  refine wp_seq ?_
  have HB : w.heap.size ≤ v64.heap.size := T65.size
  refine wp_plan_seq [.val (.is (.agg #[.bool false, .slice none 0 0])), .val (.is (.agg #[.bool false, .slice none 0 0])), .put 4 23, .put 5 24, .val (.is (.int .i64 11))] [4, 5] [q21, q30] w.heap.size (by kernel_rfl) (by kernel_rfl) ⟨p22, b72.lt, (nin1 n39), ⟨p31, b73.lt, (by simp), trivial⟩⟩ HB ?_ ?_
  · exact ⟨fun s v h => does_val rfl rfl x_build0 rfl,
      fun s v h => does_val rfl rfl x_build0 rfl,
      fun s v h => does_put_z rfl rfl ((h.same 4 rfl).trans p22) ⟨_, _, _, _, (h.dep 0 rfl)⟩ (h.mono.ok _ _ b72.ok2) h27,
      fun s v h => does_put_z rfl rfl ((h.same 5 rfl).trans p31) ⟨_, _, _, _, (h.dep 1 rfl)⟩ (h.mono.ok _ _ b73.ok2) h36,
      fun s v h => does_val rfl rfl (x_assign) rfl, trivial⟩
  intro g84 ts v84 hts E84
  simp only [fillL, Nat.reduceAdd, List.setIfInBounds_toArray, List.set_cons_zero, List.set_cons_succ] at hts
  subst hts
  have T85 : Below w.heap.size w v84 := T65.trans E84.below
  have l86 : q8 < v64.heap.size := b70.lt
  have l87 : q14 < v64.heap.size := b71.lt
  have l88 : q21 < v64.heap.size := b72.lt
  have l89 : q30 < v64.heap.size := b73.lt
  have e100 : g84 0 = (.agg #[.bool false, .slice none 0 0]) := E84.facts 0 (by decide)
  have e101 : g84 1 = (.agg #[.bool false, .slice none 0 0]) := E84.facts 1 (by decide)
  have e102 : g84 4 = (.int .i64 11) := E84.facts 4 (by decide)
  obtain ⟨t103, b104⟩ := put_lit (E84.facts 2 (by decide)) p22 e100
  have f105 : Cz v84 (.agg #[.bool false, .slice none 0 0]) 0 := cz_zero _
  obtain ⟨t106, b107⟩ := put_lit (E84.facts 3 (by decide)) p31 e101
  have f108 : Cz v84 (.agg #[.bool false, .slice none 0 0]) 0 := cz_zero _
  refine then_normal ?_
  refine wp_ret ?_
  exact bodyPost_ret (ret_cct rfl p22 b104 p31 b107) rfl ⟨_, rfl, ⟨_, _, _, rfl, f105, f108, e102⟩, T85⟩

set_option maxHeartbeats 4000000 in
set_option maxRecDepth 8000 in
theorem znear_k {w : World} {x : Value} {z : Int} {N0 : Nat} (h0 : Az N0 w x z) {y : Value} {u : Int} {N1 : Nat} (h1 : Az N1 w y u) (hN0 : N0 ≤ 35184372088800) (hN1 : N1 ≤ 35184372088800) (hu : u + u ≠ 0)  : Calls Try.prog 25 #[x, y] w (Ret (.tup2 (.cz (fl (z + z + u) (u + u))) (.is (.int .i64 0))) w) := by
  have la0 := h0.len
  obtain ⟨na0, A0, n0, c0, M0, rfl, hm0, hz0⟩ := h0.parts
  have la1 := h1.len
  obtain ⟨na1, A1, n1, c1, M1, rfl, hm1, hz1⟩ := h1.parts
  have T0 : Below w.heap.size w w := Below.refl _ _
  go_enter Try.func25, Try.ntmps25
  refine wp_seq ?_
  have HB : w.heap.size ≤ w.heap.size := T0.size
  refine wp_plan_seq [.new 2 (some (24, #[.bool na0, .slice A0 n0 c0])), .new 2 (some (24, #[.bool na1, .slice A1 n1 c1])), .new 2 (some (24, #[.bool false, .slice none 0 0])), .val (.is (.int .i64 0))] [] [] w.heap.size (by kernel_rfl) (by kernel_rfl) trivial HB ?_ ?_
  · exact ⟨fun s v h => does_new rfl rfl (x_box_z (h.same 0 rfl)) (okz _ _ _ _) rfl (.inr rfl),
      fun s v h => does_new rfl rfl (x_box_z (h.same 1 rfl)) (okz _ _ _ _) rfl (.inr rfl),
      fun s v h => does_new rfl rfl x_alloc_z (okz _ _ _ _) rfl (.inr rfl),
      fun s v h => does_val rfl rfl (x_assign) rfl, trivial⟩
  intro g109 ts v109 hts E109
  simp only [fillL, Nat.reduceAdd, List.setIfInBounds_toArray, List.set_cons_zero, List.set_cons_succ] at hts
  subst hts
  have T110 : Below w.heap.size w v109 := T0.trans E109.below
  have f111 := h0.mono E109.mono
  have f113 := h1.mono E109.mono
  obtain ⟨q116, p117, l118, o119, b120⟩ : ∃ q, g109 0 = .pointer (some ⟨q, 0, none⟩) ∧ w.heap.size ≤ q ∧ OkB v109 q 2 ∧ Bx v109 q 24 #[.bool na0, .slice A0 n0 c0] := E109.facts 0 (by decide)
  have h121 : w.heap.size ≤ q116 := Nat.le_trans HB l118
  obtain ⟨q122, p123, l124, o125, b126⟩ : ∃ q, g109 1 = .pointer (some ⟨q, 0, none⟩) ∧ w.heap.size ≤ q ∧ OkB v109 q 2 ∧ Bx v109 q 24 #[.bool na1, .slice A1 n1 c1] := E109.facts 1 (by decide)
  have h127 : w.heap.size ≤ q122 := Nat.le_trans HB l124
  obtain ⟨q129, p130, l131, o132, b133⟩ : ∃ q, g109 2 = .pointer (some ⟨q, 0, none⟩) ∧ w.heap.size ≤ q ∧ OkB v109 q 2 ∧ Bx v109 q 24 #[.bool false, .slice none 0 0] := E109.facts 2 (by decide)
  have h135 : w.heap.size ≤ q129 := Nat.le_trans HB l131
  refine then_normal ?_
  refine wp_seq ?_
  have HB : w.heap.size ≤ v109.heap.size := T110.size
  refine wp_plan_any [.val (.az N0 z), .val (.az N0 z), .val (.cz (z + z)), .val (.az N1 u), .val (.cz ((z + z) + u)), .val (.az N1 u), .val (.az N1 u), .val (.cz (u + u)), .val (.tup3 (.cz (fl ((z + z) + u) (u + u))) (.cz (md ((z + z) + u) (u + u))) (.is (.int .i64 0))), .val (.tup3 (.cz (fl ((z + z) + u) (u + u))) (.cz (md ((z + z) + u) (u + u))) (.is (.int .i64 0))), .val (.cz (fl ((z + z) + u) (u + u))), .val (.cz (md ((z + z) + u) (u + u))), .val (.is (.int .i64 0)), .new 2 none, .new 2 none, .put 6 19, .put 7 20, .val (.is (.int .i64 0))] [] [] w.heap.size (by kernel_rfl) (by kernel_rfl) (by kernel_rfl) trivial HB ?_ ?_
  · exact ⟨fun s v h => does_val rfl rfl (x_load_z ((h.same 2 rfl).trans p117) ((h.far q116 b120.lt (by simp)).trans b120)) (f111.mono ((Mono.drew _).trans h.mono)),
      fun s v h => does_val rfl rfl (x_load_z ((h.same 2 rfl).trans p117) ((h.far q116 b120.lt (by simp)).trans b120)) (f111.mono ((Mono.drew _).trans h.mono)),
      fun s v h => does_call rfl rfl (x_call2 Try.call14) (add_k (h.dep 0 rfl) (h.dep 1 rfl) (by omega) (by omega)),
      fun s v h => does_val rfl rfl (x_load_z ((h.same 3 rfl).trans p123) ((h.far q122 b126.lt (by simp)).trans b126)) (f113.mono ((Mono.drew _).trans h.mono)),
      fun s v h => does_call rfl rfl (x_call2 Try.call14) (add_k ((h.dep 2 rfl).az (N := (max N0 N0 + 1)) (len_add' (n := (max N0 N0 + 1)) la0 la0 (by omega) (by omega))) (h.dep 3 rfl) (by omega) (by omega)),
      fun s v h => does_val rfl rfl (x_load_z ((h.same 3 rfl).trans p123) ((h.far q122 b126.lt (by simp)).trans b126)) (f113.mono ((Mono.drew _).trans h.mono)),
      fun s v h => does_val rfl rfl (x_load_z ((h.same 3 rfl).trans p123) ((h.far q122 b126.lt (by simp)).trans b126)) (f113.mono ((Mono.drew _).trans h.mono)),
      fun s v h => does_call rfl rfl (x_call2 Try.call14) (add_k (h.dep 5 rfl) (h.dep 6 rfl) (by omega) (by omega)),
      fun s v h => does_call rfl rfl (x_call2 Try.call24) (zfloor_k ((h.dep 4 rfl).az (N := (max (max N0 N0 + 1) N1 + 1)) (len_add' (n := (max (max N0 N0 + 1) N1 + 1)) (len_add' (n := (max N0 N0 + 1)) la0 la0 (by omega) (by omega)) la1 (by omega) (by omega))) ((h.dep 7 rfl).az (N := (max N1 N1 + 1)) (len_add' (n := (max N1 N1 + 1)) la1 la1 (by omega) (by omega))) (by omega) (by omega) hu),
      fun s v h => does_val rfl rfl (x_move) (h.dep 8 rfl),
      fun s v h => by obtain ⟨r0, r1, r2, e, f0, f1, f2⟩ := tup3_at (h.dep 9 rfl); exact does_val rfl rfl (x_ext e rfl) f0,
      fun s v h => by obtain ⟨r0, r1, r2, e, f0, f1, f2⟩ := tup3_at (h.dep 9 rfl); exact does_val rfl rfl (x_ext e rfl) f1,
      fun s v h => by obtain ⟨r0, r1, r2, e, f0, f1, f2⟩ := tup3_at (h.dep 9 rfl); exact does_val rfl rfl (x_ext e rfl) f2,
      fun s v h => does_new rfl rfl x_alloc_z (okz _ _ _ _) rfl (.inl rfl),
      fun s v h => does_new rfl rfl x_alloc_z (okz _ _ _ _) rfl (.inl rfl),
      fun s v h => by obtain ⟨q, e1, e2, e3⟩ := new_at (h.dep 13 rfl); exact does_put_z rfl rfl e1 (h.dep 10 rfl).shape e3 (Nat.le_trans HB e2),
      fun s v h => by obtain ⟨q, e1, e2, e3⟩ := new_at (h.dep 14 rfl); exact does_put_z rfl rfl e1 (h.dep 11 rfl).shape e3 (Nat.le_trans HB e2),
      fun s v h => does_val rfl rfl (x_assign) (h.dep 12 rfl), trivial⟩
  intro g138 ts v138 hts E138
  simp only [fillL, Nat.reduceAdd, List.setIfInBounds_toArray, List.set_cons_zero, List.set_cons_succ] at hts
  subst hts
  have T139 : Below w.heap.size w v138 := (below_toDrew T110).trans E138.below
  have l140 : q116 < v109.heap.size := b120.lt
  have l141 : q122 < v109.heap.size := b126.lt
  have l142 : q129 < v109.heap.size := b133.lt
  have b143 : Bx v138 q116 24 #[.bool na0, .slice A0 n0 c0] := (E138.far q116 b120.lt (by simp)).trans b120
  have b144 : Bx v138 q122 24 #[.bool na1, .slice A1 n1 c1] := (E138.far q122 b126.lt (by simp)).trans b126
  have b145 : Bx v138 q129 24 #[.bool false, .slice none 0 0] := (E138.far q129 b133.lt (by simp)).trans b133
  have f159 : Cz v138 (g138 10) (fl ((z + z) + u) (u + u)) := E138.facts 10 (by decide)
  have f160 : Cz v138 (g138 11) (md ((z + z) + u) (u + u)) := E138.facts 11 (by decide)
  have e162 : g138 17 = (.int .i64 0) := E138.facts 17 (by decide)
  obtain ⟨q163, p164, l165, o166⟩ : ∃ q, g138 13 = .pointer (some ⟨q, 0, none⟩) ∧ v109.heap.size ≤ q ∧ OkB v138 q 2 := E138.facts 13 (by decide)
  have h167 : w.heap.size ≤ q163 := Nat.le_trans HB l165
  have n170 : q129 ≠ q163 := by omega
  obtain ⟨q171, p172, l173, o174⟩ : ∃ q, g138 14 = .pointer (some ⟨q, 0, none⟩) ∧ v109.heap.size ≤ q ∧ OkB v138 q 2 := E138.facts 14 (by decide)
  have h175 : w.heap.size ≤ q171 := Nat.le_trans HB l173
  obtain ⟨t180, x182, A183, m184, c185, e186, b181⟩ := put_info (E138.facts 15 (by decide)) p164 f159.shape
  have f187 : Cz v138 (.agg #[.bool x182, .slice A183 m184 c185]) (fl ((z + z) + u) (u + u)) := f159.at e186.symm
  obtain ⟨t188, x190, A191, m192, c193, e194, b189⟩ := put_info (E138.facts 16 (by decide)) p172 f160.shape
  refine then_normal ?_
  refine wp_seq ?_
  have HB : w.heap.size ≤ v138.heap.size := T139.size
  refine wp_plan_seq [.val (.cz (fl ((z + z) + u) (u + u))), .val (.is (.int .i64 0)), .put 4 22, .val (.is (.int .i64 0))] [4] [q129] w.heap.size (by kernel_rfl) (by kernel_rfl) ⟨p130, b145.lt, (by simp), trivial⟩ HB ?_ ?_
  · exact ⟨fun s v h => does_val rfl rfl (x_load_z ((h.same 6 rfl).trans p164) ((h.far q163 b181.lt (nin1 n170.symm)).trans b181)) (f187.mono h.mono),
      fun s v h => does_val rfl rfl (x_move) ((h.same 8 rfl).trans e162),
      fun s v h => does_put_z rfl rfl ((h.same 4 rfl).trans p130) (h.dep 0 rfl).shape (h.mono.ok _ _ b145.ok2) h135,
      fun s v h => does_val rfl rfl (x_assign) (h.dep 1 rfl), trivial⟩
  intro g196 ts v196 hts E196
  simp only [fillL, Nat.reduceAdd, List.setIfInBounds_toArray, List.set_cons_zero, List.set_cons_succ] at hts
  subst hts
  have T197 : Below w.heap.size w v196 := T139.trans E196.below
  have l198 : q116 < v138.heap.size := b143.lt
  have l199 : q122 < v138.heap.size := b144.lt
  have l200 : q129 < v138.heap.size := b145.lt
  have l201 : q163 < v138.heap.size := b181.lt
  have l202 : q171 < v138.heap.size := b189.lt
  have f224 : Cz v196 (g196 0) (fl ((z + z) + u) (u + u)) := E196.facts 0 (by decide)
  have e226 : g196 3 = (.int .i64 0) := E196.facts 3 (by decide)
  obtain ⟨t227, x229, A230, m231, c232, e233, b228⟩ := put_info (E196.facts 2 (by decide)) p130 f224.shape
  have f234 : Cz v196 (.agg #[.bool x229, .slice A230 m231 c232]) (fl ((z + z) + u) (u + u)) := f224.at e233.symm
  refine then_normal ?_
  refine wp_ret ?_
  exact bodyPost_ret (ret_ct rfl p130 b228) rfl ⟨_, rfl, ⟨_, _, rfl, f234, e226⟩, T197⟩

set_option maxHeartbeats 4000000 in
set_option maxRecDepth 8000 in
theorem znear0_k {w : World} {x : Value} {z : Int} {N0 : Nat} (h0 : Az N0 w x z) {y : Value} {u : Int} {N1 : Nat} (h1 : Az N1 w y u) (hN0 : N0 ≤ 35184372088800) (hN1 : N1 ≤ 35184372088800) (hu : u + u = 0)  : Calls Try.prog 25 #[x, y] w (Ret (.tup2 (.cz 0) (.is (.int .i64 11))) w) := by
  have la0 := h0.len
  obtain ⟨na0, A0, n0, c0, M0, rfl, hm0, hz0⟩ := h0.parts
  have la1 := h1.len
  obtain ⟨na1, A1, n1, c1, M1, rfl, hm1, hz1⟩ := h1.parts
  have T0 : Below w.heap.size w w := Below.refl _ _
  go_enter Try.func25, Try.ntmps25
  refine wp_seq ?_
  have HB : w.heap.size ≤ w.heap.size := T0.size
  refine wp_plan_seq [.new 2 (some (24, #[.bool na0, .slice A0 n0 c0])), .new 2 (some (24, #[.bool na1, .slice A1 n1 c1])), .new 2 (some (24, #[.bool false, .slice none 0 0])), .val (.is (.int .i64 0))] [] [] w.heap.size (by kernel_rfl) (by kernel_rfl) trivial HB ?_ ?_
  · exact ⟨fun s v h => does_new rfl rfl (x_box_z (h.same 0 rfl)) (okz _ _ _ _) rfl (.inr rfl),
      fun s v h => does_new rfl rfl (x_box_z (h.same 1 rfl)) (okz _ _ _ _) rfl (.inr rfl),
      fun s v h => does_new rfl rfl x_alloc_z (okz _ _ _ _) rfl (.inr rfl),
      fun s v h => does_val rfl rfl (x_assign) rfl, trivial⟩
  intro g235 ts v235 hts E235
  simp only [fillL, Nat.reduceAdd, List.setIfInBounds_toArray, List.set_cons_zero, List.set_cons_succ] at hts
  subst hts
  have T236 : Below w.heap.size w v235 := T0.trans E235.below
  have f237 := h0.mono E235.mono
  have f239 := h1.mono E235.mono
  obtain ⟨q242, p243, l244, o245, b246⟩ : ∃ q, g235 0 = .pointer (some ⟨q, 0, none⟩) ∧ w.heap.size ≤ q ∧ OkB v235 q 2 ∧ Bx v235 q 24 #[.bool na0, .slice A0 n0 c0] := E235.facts 0 (by decide)
  have h247 : w.heap.size ≤ q242 := Nat.le_trans HB l244
  obtain ⟨q248, p249, l250, o251, b252⟩ : ∃ q, g235 1 = .pointer (some ⟨q, 0, none⟩) ∧ w.heap.size ≤ q ∧ OkB v235 q 2 ∧ Bx v235 q 24 #[.bool na1, .slice A1 n1 c1] := E235.facts 1 (by decide)
  have h253 : w.heap.size ≤ q248 := Nat.le_trans HB l250
  obtain ⟨q255, p256, l257, o258, b259⟩ : ∃ q, g235 2 = .pointer (some ⟨q, 0, none⟩) ∧ w.heap.size ≤ q ∧ OkB v235 q 2 ∧ Bx v235 q 24 #[.bool false, .slice none 0 0] := E235.facts 2 (by decide)
  have h261 : w.heap.size ≤ q255 := Nat.le_trans HB l257
  refine then_normal ?_
  refine wp_seq ?_
  have HB : w.heap.size ≤ v235.heap.size := T236.size
  refine wp_plan_any [.val (.az N0 z), .val (.az N0 z), .val (.cz (z + z)), .val (.az N1 u), .val (.cz ((z + z) + u)), .val (.az N1 u), .val (.az N1 u), .val (.cz (u + u)), .val (.tup3 (.cz 0) (.cz 0) (.is (.int .i64 11))), .val (.tup3 (.cz 0) (.cz 0) (.is (.int .i64 11))), .val (.cz 0), .val (.cz 0), .val (.is (.int .i64 11)), .new 2 none, .new 2 none, .put 6 19, .put 7 20, .val (.is (.int .i64 11))] [] [] w.heap.size (by kernel_rfl) (by kernel_rfl) (by kernel_rfl) trivial HB ?_ ?_
  · exact ⟨fun s v h => does_val rfl rfl (x_load_z ((h.same 2 rfl).trans p243) ((h.far q242 b246.lt (by simp)).trans b246)) (f237.mono ((Mono.drew _).trans h.mono)),
      fun s v h => does_val rfl rfl (x_load_z ((h.same 2 rfl).trans p243) ((h.far q242 b246.lt (by simp)).trans b246)) (f237.mono ((Mono.drew _).trans h.mono)),
      fun s v h => does_call rfl rfl (x_call2 Try.call14) (add_k (h.dep 0 rfl) (h.dep 1 rfl) (by omega) (by omega)),
      fun s v h => does_val rfl rfl (x_load_z ((h.same 3 rfl).trans p249) ((h.far q248 b252.lt (by simp)).trans b252)) (f239.mono ((Mono.drew _).trans h.mono)),
      fun s v h => does_call rfl rfl (x_call2 Try.call14) (add_k ((h.dep 2 rfl).az (N := (max N0 N0 + 1)) (len_add' (n := (max N0 N0 + 1)) la0 la0 (by omega) (by omega))) (h.dep 3 rfl) (by omega) (by omega)),
      fun s v h => does_val rfl rfl (x_load_z ((h.same 3 rfl).trans p249) ((h.far q248 b252.lt (by simp)).trans b252)) (f239.mono ((Mono.drew _).trans h.mono)),
      fun s v h => does_val rfl rfl (x_load_z ((h.same 3 rfl).trans p249) ((h.far q248 b252.lt (by simp)).trans b252)) (f239.mono ((Mono.drew _).trans h.mono)),
      fun s v h => does_call rfl rfl (x_call2 Try.call14) (add_k (h.dep 5 rfl) (h.dep 6 rfl) (by omega) (by omega)),
      fun s v h => does_call rfl rfl (x_call2 Try.call24) (zfloor0_k ((h.dep 4 rfl).az (N := (max (max N0 N0 + 1) N1 + 1)) (len_add' (n := (max (max N0 N0 + 1) N1 + 1)) (len_add' (n := (max N0 N0 + 1)) la0 la0 (by omega) (by omega)) la1 (by omega) (by omega))) ((h.dep 7 rfl).az (N := (max N1 N1 + 1)) (len_add' (n := (max N1 N1 + 1)) la1 la1 (by omega) (by omega))) hu),
      fun s v h => does_val rfl rfl (x_move) (h.dep 8 rfl),
      fun s v h => by obtain ⟨r0, r1, r2, e, f0, f1, f2⟩ := tup3_at (h.dep 9 rfl); exact does_val rfl rfl (x_ext e rfl) f0,
      fun s v h => by obtain ⟨r0, r1, r2, e, f0, f1, f2⟩ := tup3_at (h.dep 9 rfl); exact does_val rfl rfl (x_ext e rfl) f1,
      fun s v h => by obtain ⟨r0, r1, r2, e, f0, f1, f2⟩ := tup3_at (h.dep 9 rfl); exact does_val rfl rfl (x_ext e rfl) f2,
      fun s v h => does_new rfl rfl x_alloc_z (okz _ _ _ _) rfl (.inl rfl),
      fun s v h => does_new rfl rfl x_alloc_z (okz _ _ _ _) rfl (.inl rfl),
      fun s v h => by obtain ⟨q, e1, e2, e3⟩ := new_at (h.dep 13 rfl); exact does_put_z rfl rfl e1 (h.dep 10 rfl).shape e3 (Nat.le_trans HB e2),
      fun s v h => by obtain ⟨q, e1, e2, e3⟩ := new_at (h.dep 14 rfl); exact does_put_z rfl rfl e1 (h.dep 11 rfl).shape e3 (Nat.le_trans HB e2),
      fun s v h => does_val rfl rfl (x_assign) (h.dep 12 rfl), trivial⟩
  intro g264 ts v264 hts E264
  simp only [fillL, Nat.reduceAdd, List.setIfInBounds_toArray, List.set_cons_zero, List.set_cons_succ] at hts
  subst hts
  have T265 : Below w.heap.size w v264 := (below_toDrew T236).trans E264.below
  have l266 : q242 < v235.heap.size := b246.lt
  have l267 : q248 < v235.heap.size := b252.lt
  have l268 : q255 < v235.heap.size := b259.lt
  have b269 : Bx v264 q242 24 #[.bool na0, .slice A0 n0 c0] := (E264.far q242 b246.lt (by simp)).trans b246
  have b270 : Bx v264 q248 24 #[.bool na1, .slice A1 n1 c1] := (E264.far q248 b252.lt (by simp)).trans b252
  have b271 : Bx v264 q255 24 #[.bool false, .slice none 0 0] := (E264.far q255 b259.lt (by simp)).trans b259
  have f285 : Cz v264 (g264 10) 0 := E264.facts 10 (by decide)
  have f286 : Cz v264 (g264 11) 0 := E264.facts 11 (by decide)
  have e288 : g264 17 = (.int .i64 11) := E264.facts 17 (by decide)
  obtain ⟨q289, p290, l291, o292⟩ : ∃ q, g264 13 = .pointer (some ⟨q, 0, none⟩) ∧ v235.heap.size ≤ q ∧ OkB v264 q 2 := E264.facts 13 (by decide)
  have h293 : w.heap.size ≤ q289 := Nat.le_trans HB l291
  have n296 : q255 ≠ q289 := by omega
  obtain ⟨q297, p298, l299, o300⟩ : ∃ q, g264 14 = .pointer (some ⟨q, 0, none⟩) ∧ v235.heap.size ≤ q ∧ OkB v264 q 2 := E264.facts 14 (by decide)
  have h301 : w.heap.size ≤ q297 := Nat.le_trans HB l299
  obtain ⟨t306, x308, A309, m310, c311, e312, b307⟩ := put_info (E264.facts 15 (by decide)) p290 f285.shape
  have f313 : Cz v264 (.agg #[.bool x308, .slice A309 m310 c311]) 0 := f285.at e312.symm
  obtain ⟨t314, x316, A317, m318, c319, e320, b315⟩ := put_info (E264.facts 16 (by decide)) p298 f286.shape
  refine then_normal ?_
  refine wp_seq ?_
  have HB : w.heap.size ≤ v264.heap.size := T265.size
  refine wp_plan_seq [.val (.cz 0), .val (.is (.int .i64 11)), .put 4 22, .val (.is (.int .i64 11))] [4] [q255] w.heap.size (by kernel_rfl) (by kernel_rfl) ⟨p256, b271.lt, (by simp), trivial⟩ HB ?_ ?_
  · exact ⟨fun s v h => does_val rfl rfl (x_load_z ((h.same 6 rfl).trans p290) ((h.far q289 b307.lt (nin1 n296.symm)).trans b307)) (f313.mono h.mono),
      fun s v h => does_val rfl rfl (x_move) ((h.same 8 rfl).trans e288),
      fun s v h => does_put_z rfl rfl ((h.same 4 rfl).trans p256) (h.dep 0 rfl).shape (h.mono.ok _ _ b271.ok2) h261,
      fun s v h => does_val rfl rfl (x_assign) (h.dep 1 rfl), trivial⟩
  intro g322 ts v322 hts E322
  simp only [fillL, Nat.reduceAdd, List.setIfInBounds_toArray, List.set_cons_zero, List.set_cons_succ] at hts
  subst hts
  have T323 : Below w.heap.size w v322 := T265.trans E322.below
  have l324 : q242 < v264.heap.size := b269.lt
  have l325 : q248 < v264.heap.size := b270.lt
  have l326 : q255 < v264.heap.size := b271.lt
  have l327 : q289 < v264.heap.size := b307.lt
  have l328 : q297 < v264.heap.size := b315.lt
  have f350 : Cz v322 (g322 0) 0 := E322.facts 0 (by decide)
  have e352 : g322 3 = (.int .i64 11) := E322.facts 3 (by decide)
  obtain ⟨t353, x355, A356, m357, c358, e359, b354⟩ := put_info (E322.facts 2 (by decide)) p256 f350.shape
  have f360 : Cz v322 (.agg #[.bool x355, .slice A356 m357 c358]) 0 := f350.at e359.symm
  refine then_normal ?_
  refine wp_ret ?_
  exact bodyPost_ret (ret_ct rfl p256 b354) rfl ⟨_, rfl, ⟨_, _, rfl, f360, e352⟩, T323⟩

set_option maxHeartbeats 4000000 in
set_option maxRecDepth 8000 in
theorem zexact_a {w : World} {x : Value} {z : Int} {N0 : Nat} (h0 : Az N0 w x z) {y : Value} {u : Int} {N1 : Nat} (h1 : Az N1 w y u) (hN0 : N0 ≤ 35184372088800) (hN1 : N1 ≤ 35184372088800) (hu : u ≠ 0) (d1 : ((md z u).sign == 0) = true)  : Calls Try.prog 26 #[x, y] w (Ret (.tup2 (.cz (fl z u)) (.is (.int .i64 0))) w) := by
  have la0 := h0.len
  obtain ⟨na0, A0, n0, c0, M0, rfl, hm0, hz0⟩ := h0.parts
  have la1 := h1.len
  obtain ⟨na1, A1, n1, c1, M1, rfl, hm1, hz1⟩ := h1.parts
  have T0 : Below w.heap.size w w := Below.refl _ _
  go_enter Try.func26, Try.ntmps26
  refine wp_seq ?_
  have HB : w.heap.size ≤ w.heap.size := T0.size
  refine wp_plan_seq [.new 2 (some (24, #[.bool na0, .slice A0 n0 c0])), .new 2 (some (24, #[.bool na1, .slice A1 n1 c1])), .new 2 (some (24, #[.bool false, .slice none 0 0])), .val (.is (.int .i64 0))] [] [] w.heap.size (by kernel_rfl) (by kernel_rfl) trivial HB ?_ ?_
  · exact ⟨fun s v h => does_new rfl rfl (x_box_z (h.same 0 rfl)) (okz _ _ _ _) rfl (.inr rfl),
      fun s v h => does_new rfl rfl (x_box_z (h.same 1 rfl)) (okz _ _ _ _) rfl (.inr rfl),
      fun s v h => does_new rfl rfl x_alloc_z (okz _ _ _ _) rfl (.inr rfl),
      fun s v h => does_val rfl rfl (x_assign) rfl, trivial⟩
  intro g361 ts v361 hts E361
  simp only [fillL, Nat.reduceAdd, List.setIfInBounds_toArray, List.set_cons_zero, List.set_cons_succ] at hts
  subst hts
  have T362 : Below w.heap.size w v361 := T0.trans E361.below
  have f363 := h0.mono E361.mono
  have f365 := h1.mono E361.mono
  obtain ⟨q368, p369, l370, o371, b372⟩ : ∃ q, g361 0 = .pointer (some ⟨q, 0, none⟩) ∧ w.heap.size ≤ q ∧ OkB v361 q 2 ∧ Bx v361 q 24 #[.bool na0, .slice A0 n0 c0] := E361.facts 0 (by decide)
  have h373 : w.heap.size ≤ q368 := Nat.le_trans HB l370
  obtain ⟨q374, p375, l376, o377, b378⟩ : ∃ q, g361 1 = .pointer (some ⟨q, 0, none⟩) ∧ w.heap.size ≤ q ∧ OkB v361 q 2 ∧ Bx v361 q 24 #[.bool na1, .slice A1 n1 c1] := E361.facts 1 (by decide)
  have h379 : w.heap.size ≤ q374 := Nat.le_trans HB l376
  obtain ⟨q381, p382, l383, o384, b385⟩ : ∃ q, g361 2 = .pointer (some ⟨q, 0, none⟩) ∧ w.heap.size ≤ q ∧ OkB v361 q 2 ∧ Bx v361 q 24 #[.bool false, .slice none 0 0] := E361.facts 2 (by decide)
  have h387 : w.heap.size ≤ q381 := Nat.le_trans HB l383
  refine then_normal ?_
  refine wp_seq ?_
  have HB : w.heap.size ≤ v361.heap.size := T362.size
  refine wp_plan_seq [.val (.az N0 z), .val (.az N1 u), .val (.tup3 (.cz (fl z u)) (.cz (md z u)) (.is (.int .i64 0))), .val (.tup3 (.cz (fl z u)) (.cz (md z u)) (.is (.int .i64 0))), .val (.cz (fl z u)), .val (.cz (md z u)), .val (.is (.int .i64 0)), .new 2 none, .new 2 none, .put 6 13, .put 7 14, .val (.is (.int .i64 0))] [] [] w.heap.size (by kernel_rfl) (by kernel_rfl) trivial HB ?_ ?_
  · exact ⟨fun s v h => does_val rfl rfl (x_load_z ((h.same 2 rfl).trans p369) ((h.far q368 b372.lt (by simp)).trans b372)) (f363.mono h.mono),
      fun s v h => does_val rfl rfl (x_load_z ((h.same 3 rfl).trans p375) ((h.far q374 b378.lt (by simp)).trans b378)) (f365.mono h.mono),
      fun s v h => does_call rfl rfl (x_call2 Try.call24) (zfloor_k (h.dep 0 rfl) (h.dep 1 rfl) (by omega) (by omega) hu),
      fun s v h => does_val rfl rfl (x_move) (h.dep 2 rfl),
      fun s v h => by obtain ⟨r0, r1, r2, e, f0, f1, f2⟩ := tup3_at (h.dep 3 rfl); exact does_val rfl rfl (x_ext e rfl) f0,
      fun s v h => by obtain ⟨r0, r1, r2, e, f0, f1, f2⟩ := tup3_at (h.dep 3 rfl); exact does_val rfl rfl (x_ext e rfl) f1,
      fun s v h => by obtain ⟨r0, r1, r2, e, f0, f1, f2⟩ := tup3_at (h.dep 3 rfl); exact does_val rfl rfl (x_ext e rfl) f2,
      fun s v h => does_new rfl rfl x_alloc_z (okz _ _ _ _) rfl (.inl rfl),
      fun s v h => does_new rfl rfl x_alloc_z (okz _ _ _ _) rfl (.inl rfl),
      fun s v h => by obtain ⟨q, e1, e2, e3⟩ := new_at (h.dep 7 rfl); exact does_put_z rfl rfl e1 (h.dep 4 rfl).shape e3 (Nat.le_trans HB e2),
      fun s v h => by obtain ⟨q, e1, e2, e3⟩ := new_at (h.dep 8 rfl); exact does_put_z rfl rfl e1 (h.dep 5 rfl).shape e3 (Nat.le_trans HB e2),
      fun s v h => does_val rfl rfl (x_assign) (h.dep 6 rfl), trivial⟩
  intro g390 ts v390 hts E390
  simp only [fillL, Nat.reduceAdd, List.setIfInBounds_toArray, List.set_cons_zero, List.set_cons_succ] at hts
  subst hts
  have T391 : Below w.heap.size w v390 := T362.trans E390.below
  have l392 : q368 < v361.heap.size := b372.lt
  have l393 : q374 < v361.heap.size := b378.lt
  have l394 : q381 < v361.heap.size := b385.lt
  have b395 : Bx v390 q368 24 #[.bool na0, .slice A0 n0 c0] := (E390.far q368 b372.lt (by simp)).trans b372
  have b396 : Bx v390 q374 24 #[.bool na1, .slice A1 n1 c1] := (E390.far q374 b378.lt (by simp)).trans b378
  have b397 : Bx v390 q381 24 #[.bool false, .slice none 0 0] := (E390.far q381 b385.lt (by simp)).trans b385
  have f405 : Cz v390 (g390 4) (fl z u) := E390.facts 4 (by decide)
  have f406 : Cz v390 (g390 5) (md z u) := E390.facts 5 (by decide)
  have e408 : g390 11 = (.int .i64 0) := E390.facts 11 (by decide)
  obtain ⟨q409, p410, l411, o412⟩ : ∃ q, g390 7 = .pointer (some ⟨q, 0, none⟩) ∧ v361.heap.size ≤ q ∧ OkB v390 q 2 := E390.facts 7 (by decide)
  have h413 : w.heap.size ≤ q409 := Nat.le_trans HB l411
  have n416 : q381 ≠ q409 := by omega
  obtain ⟨q417, p418, l419, o420⟩ : ∃ q, g390 8 = .pointer (some ⟨q, 0, none⟩) ∧ v361.heap.size ≤ q ∧ OkB v390 q 2 := E390.facts 8 (by decide)
  have h421 : w.heap.size ≤ q417 := Nat.le_trans HB l419
  obtain ⟨t426, x428, A429, m430, c431, e432, b427⟩ := put_info (E390.facts 9 (by decide)) p410 f405.shape
  have f433 : Cz v390 (.agg #[.bool x428, .slice A429 m430 c431]) (fl z u) := f405.at e432.symm
  obtain ⟨t434, x436, A437, m438, c439, e440, b435⟩ := put_info (E390.facts 10 (by decide)) p418 f406.shape
  have f441 : Cz v390 (.agg #[.bool x436, .slice A437 m438 c439]) (md z u) := f406.at e440.symm
  refine then_normal ?_
  refine wp_seq ?_
  refine wp_block ?_
  refine wp_seq ?_
  have HB : w.heap.size ≤ v390.heap.size := T391.size
  refine wp_plan_seq [.val (.is (.int .i64 0)), .val (.is (.bool false)), .val (.is (.bool false))] [] [] w.heap.size (by kernel_rfl) (by kernel_rfl) trivial HB ?_ ?_
  · exact ⟨fun s v h => does_val rfl rfl (x_move) ((h.same 8 rfl).trans e408),
      fun s v h => does_val rfl rfl (x_neq_err (h.dep 0 rfl) rfl) rfl,
      fun s v h => does_val rfl rfl (x_assign) (h.dep 1 rfl), trivial⟩
  intro g442 ts v442 hts E442
  simp only [fillL, Nat.reduceAdd, List.setIfInBounds_toArray, List.set_cons_zero, List.set_cons_succ] at hts
  subst hts
  have T443 : Below w.heap.size w v442 := T391.trans E442.below
  have l444 : q368 < v390.heap.size := b395.lt
  have l445 : q374 < v390.heap.size := b396.lt
  have l446 : q381 < v390.heap.size := b397.lt
  have l447 : q409 < v390.heap.size := b427.lt
  have l448 : q417 < v390.heap.size := b435.lt
  have b449 : Bx v442 q368 24 #[.bool na0, .slice A0 n0 c0] := (E442.far q368 b395.lt (by simp)).trans b395
  have b450 : Bx v442 q374 24 #[.bool na1, .slice A1 n1 c1] := (E442.far q374 b396.lt (by simp)).trans b396
  have b451 : Bx v442 q381 24 #[.bool false, .slice none 0 0] := (E442.far q381 b397.lt (by simp)).trans b397
  have b452 : Bx v442 q409 t426 #[.bool x428, .slice A429 m430 c431] := (E442.far q409 b427.lt (by simp)).trans b427
  have b453 : Bx v442 q417 t434 #[.bool x436, .slice A437 m438 c439] := (E442.far q417 b435.lt (by simp)).trans b435
  have f463 := f433.mono E442.mono
  have f464 := f441.mono E442.mono
  have e467 : g442 2 = (.bool false) := E442.facts 2 (by decide)
  refine then_normal ?_
  refine wp_cond_false e467 ?_
  refine wp_seq ?_
  have HB : w.heap.size ≤ v442.heap.size := T443.size
  refine wp_plan_seq [.val (.cz (md z u)), .val (.is (.int .i64 (md z u).sign)), .val (.is (.bool false)), .val (.is (.bool false))] [] [] w.heap.size (by kernel_rfl) (by kernel_rfl) trivial HB ?_ ?_
  · exact ⟨fun s v h => does_val rfl rfl (x_load_z ((h.same 7 rfl).trans p418) ((h.far q417 b453.lt (by simp)).trans b453)) (f464.mono h.mono),
      fun s v h => does_call rfl rfl (x_call1 Try.call39) (sign_k ((h.dep 0 rfl).az (N := N1) (md_len hu la1))),
      fun s v h => does_val rfl rfl (x_neq_int (h.dep 1 rfl) rfl) (congrArg (fun x => Value.bool (!x)) d1),
      fun s v h => does_val rfl rfl (x_assign) (h.dep 2 rfl), trivial⟩
  intro g468 ts v468 hts E468
  simp only [fillL, Nat.reduceAdd, List.setIfInBounds_toArray, List.set_cons_zero, List.set_cons_succ] at hts
  subst hts
  have T469 : Below w.heap.size w v468 := T443.trans E468.below
  have l470 : q368 < v442.heap.size := b449.lt
  have l471 : q374 < v442.heap.size := b450.lt
  have l472 : q381 < v442.heap.size := b451.lt
  have l473 : q409 < v442.heap.size := b452.lt
  have l474 : q417 < v442.heap.size := b453.lt
  have b475 : Bx v468 q368 24 #[.bool na0, .slice A0 n0 c0] := (E468.far q368 b449.lt (by simp)).trans b449
  have b476 : Bx v468 q374 24 #[.bool na1, .slice A1 n1 c1] := (E468.far q374 b450.lt (by simp)).trans b450
  have b477 : Bx v468 q381 24 #[.bool false, .slice none 0 0] := (E468.far q381 b451.lt (by simp)).trans b451
  have b478 : Bx v468 q409 t426 #[.bool x428, .slice A429 m430 c431] := (E468.far q409 b452.lt (by simp)).trans b452
  have b479 : Bx v468 q417 t434 #[.bool x436, .slice A437 m438 c439] := (E468.far q417 b453.lt (by simp)).trans b453
  have f489 := f463.mono E468.mono
  have e494 : g468 3 = (.bool false) := E468.facts 3 (by decide)
  refine then_normal ?_
  refine wp_cond_false e494 ?_
  refine wp_skip ?_
  refine block_normal ?_
  refine then_normal ?_
  refine wp_seq ?_
  have HB : w.heap.size ≤ v468.heap.size := T469.size
  refine wp_plan_seq [.val (.cz (fl z u)), .put 4 26, .val (.is (.int .i64 0))] [4] [q381] w.heap.size (by kernel_rfl) (by kernel_rfl) ⟨p382, b477.lt, (by simp), trivial⟩ HB ?_ ?_
  · exact ⟨fun s v h => does_val rfl rfl (x_load_z ((h.same 6 rfl).trans p410) ((h.far q409 b478.lt (nin1 n416.symm)).trans b478)) (f489.mono h.mono),
      fun s v h => does_put_z rfl rfl ((h.same 4 rfl).trans p382) (h.dep 0 rfl).shape (h.mono.ok _ _ b477.ok2) h387,
      fun s v h => does_val rfl rfl (x_assign) rfl, trivial⟩
  intro g495 ts v495 hts E495
  simp only [fillL, Nat.reduceAdd, List.setIfInBounds_toArray, List.set_cons_zero, List.set_cons_succ] at hts
  subst hts
  have T496 : Below w.heap.size w v495 := T469.trans E495.below
  have l497 : q368 < v468.heap.size := b475.lt
  have l498 : q374 < v468.heap.size := b476.lt
  have l499 : q381 < v468.heap.size := b477.lt
  have l500 : q409 < v468.heap.size := b478.lt
  have l501 : q417 < v468.heap.size := b479.lt
  have f518 : Cz v495 (g495 0) (fl z u) := E495.facts 0 (by decide)
  have e519 : g495 2 = (.int .i64 0) := E495.facts 2 (by decide)
  obtain ⟨t520, x522, A523, m524, c525, e526, b521⟩ := put_info (E495.facts 1 (by decide)) p382 f518.shape
  have f527 : Cz v495 (.agg #[.bool x522, .slice A523 m524 c525]) (fl z u) := f518.at e526.symm
  refine then_normal ?_
  refine wp_ret ?_
  exact bodyPost_ret (ret_ct rfl p382 b521) rfl ⟨_, rfl, ⟨_, _, rfl, f527, e519⟩, T496⟩

set_option maxHeartbeats 4000000 in
set_option maxRecDepth 8000 in
theorem zexact_b {w : World} {x : Value} {z : Int} {N0 : Nat} (h0 : Az N0 w x z) {y : Value} {u : Int} {N1 : Nat} (h1 : Az N1 w y u) (hN0 : N0 ≤ 35184372088800) (hN1 : N1 ≤ 35184372088800) (hu : u ≠ 0) (d1 : ((md z u).sign == 0) = false)  : Calls Try.prog 26 #[x, y] w (Ret (.tup2 (.cz 0) (.is (.int .i64 20))) w) := by
  have la0 := h0.len
  obtain ⟨na0, A0, n0, c0, M0, rfl, hm0, hz0⟩ := h0.parts
  have la1 := h1.len
  obtain ⟨na1, A1, n1, c1, M1, rfl, hm1, hz1⟩ := h1.parts
  have T0 : Below w.heap.size w w := Below.refl _ _
  go_enter Try.func26, Try.ntmps26
  refine wp_seq ?_
  have HB : w.heap.size ≤ w.heap.size := T0.size
  refine wp_plan_seq [.new 2 (some (24, #[.bool na0, .slice A0 n0 c0])), .new 2 (some (24, #[.bool na1, .slice A1 n1 c1])), .new 2 (some (24, #[.bool false, .slice none 0 0])), .val (.is (.int .i64 0))] [] [] w.heap.size (by kernel_rfl) (by kernel_rfl) trivial HB ?_ ?_
  · exact ⟨fun s v h => does_new rfl rfl (x_box_z (h.same 0 rfl)) (okz _ _ _ _) rfl (.inr rfl),
      fun s v h => does_new rfl rfl (x_box_z (h.same 1 rfl)) (okz _ _ _ _) rfl (.inr rfl),
      fun s v h => does_new rfl rfl x_alloc_z (okz _ _ _ _) rfl (.inr rfl),
      fun s v h => does_val rfl rfl (x_assign) rfl, trivial⟩
  intro g528 ts v528 hts E528
  simp only [fillL, Nat.reduceAdd, List.setIfInBounds_toArray, List.set_cons_zero, List.set_cons_succ] at hts
  subst hts
  have T529 : Below w.heap.size w v528 := T0.trans E528.below
  have f530 := h0.mono E528.mono
  have f532 := h1.mono E528.mono
  obtain ⟨q535, p536, l537, o538, b539⟩ : ∃ q, g528 0 = .pointer (some ⟨q, 0, none⟩) ∧ w.heap.size ≤ q ∧ OkB v528 q 2 ∧ Bx v528 q 24 #[.bool na0, .slice A0 n0 c0] := E528.facts 0 (by decide)
  have h540 : w.heap.size ≤ q535 := Nat.le_trans HB l537
  obtain ⟨q541, p542, l543, o544, b545⟩ : ∃ q, g528 1 = .pointer (some ⟨q, 0, none⟩) ∧ w.heap.size ≤ q ∧ OkB v528 q 2 ∧ Bx v528 q 24 #[.bool na1, .slice A1 n1 c1] := E528.facts 1 (by decide)
  have h546 : w.heap.size ≤ q541 := Nat.le_trans HB l543
  obtain ⟨q548, p549, l550, o551, b552⟩ : ∃ q, g528 2 = .pointer (some ⟨q, 0, none⟩) ∧ w.heap.size ≤ q ∧ OkB v528 q 2 ∧ Bx v528 q 24 #[.bool false, .slice none 0 0] := E528.facts 2 (by decide)
  have h554 : w.heap.size ≤ q548 := Nat.le_trans HB l550
  refine then_normal ?_
  refine wp_seq ?_
  have HB : w.heap.size ≤ v528.heap.size := T529.size
  refine wp_plan_seq [.val (.az N0 z), .val (.az N1 u), .val (.tup3 (.cz (fl z u)) (.cz (md z u)) (.is (.int .i64 0))), .val (.tup3 (.cz (fl z u)) (.cz (md z u)) (.is (.int .i64 0))), .val (.cz (fl z u)), .val (.cz (md z u)), .val (.is (.int .i64 0)), .new 2 none, .new 2 none, .put 6 13, .put 7 14, .val (.is (.int .i64 0))] [] [] w.heap.size (by kernel_rfl) (by kernel_rfl) trivial HB ?_ ?_
  · exact ⟨fun s v h => does_val rfl rfl (x_load_z ((h.same 2 rfl).trans p536) ((h.far q535 b539.lt (by simp)).trans b539)) (f530.mono h.mono),
      fun s v h => does_val rfl rfl (x_load_z ((h.same 3 rfl).trans p542) ((h.far q541 b545.lt (by simp)).trans b545)) (f532.mono h.mono),
      fun s v h => does_call rfl rfl (x_call2 Try.call24) (zfloor_k (h.dep 0 rfl) (h.dep 1 rfl) (by omega) (by omega) hu),
      fun s v h => does_val rfl rfl (x_move) (h.dep 2 rfl),
      fun s v h => by obtain ⟨r0, r1, r2, e, f0, f1, f2⟩ := tup3_at (h.dep 3 rfl); exact does_val rfl rfl (x_ext e rfl) f0,
      fun s v h => by obtain ⟨r0, r1, r2, e, f0, f1, f2⟩ := tup3_at (h.dep 3 rfl); exact does_val rfl rfl (x_ext e rfl) f1,
      fun s v h => by obtain ⟨r0, r1, r2, e, f0, f1, f2⟩ := tup3_at (h.dep 3 rfl); exact does_val rfl rfl (x_ext e rfl) f2,
      fun s v h => does_new rfl rfl x_alloc_z (okz _ _ _ _) rfl (.inl rfl),
      fun s v h => does_new rfl rfl x_alloc_z (okz _ _ _ _) rfl (.inl rfl),
      fun s v h => by obtain ⟨q, e1, e2, e3⟩ := new_at (h.dep 7 rfl); exact does_put_z rfl rfl e1 (h.dep 4 rfl).shape e3 (Nat.le_trans HB e2),
      fun s v h => by obtain ⟨q, e1, e2, e3⟩ := new_at (h.dep 8 rfl); exact does_put_z rfl rfl e1 (h.dep 5 rfl).shape e3 (Nat.le_trans HB e2),
      fun s v h => does_val rfl rfl (x_assign) (h.dep 6 rfl), trivial⟩
  intro g557 ts v557 hts E557
  simp only [fillL, Nat.reduceAdd, List.setIfInBounds_toArray, List.set_cons_zero, List.set_cons_succ] at hts
  subst hts
  have T558 : Below w.heap.size w v557 := T529.trans E557.below
  have l559 : q535 < v528.heap.size := b539.lt
  have l560 : q541 < v528.heap.size := b545.lt
  have l561 : q548 < v528.heap.size := b552.lt
  have b562 : Bx v557 q535 24 #[.bool na0, .slice A0 n0 c0] := (E557.far q535 b539.lt (by simp)).trans b539
  have b563 : Bx v557 q541 24 #[.bool na1, .slice A1 n1 c1] := (E557.far q541 b545.lt (by simp)).trans b545
  have b564 : Bx v557 q548 24 #[.bool false, .slice none 0 0] := (E557.far q548 b552.lt (by simp)).trans b552
  have f572 : Cz v557 (g557 4) (fl z u) := E557.facts 4 (by decide)
  have f573 : Cz v557 (g557 5) (md z u) := E557.facts 5 (by decide)
  have e575 : g557 11 = (.int .i64 0) := E557.facts 11 (by decide)
  obtain ⟨q576, p577, l578, o579⟩ : ∃ q, g557 7 = .pointer (some ⟨q, 0, none⟩) ∧ v528.heap.size ≤ q ∧ OkB v557 q 2 := E557.facts 7 (by decide)
  have h580 : w.heap.size ≤ q576 := Nat.le_trans HB l578
  obtain ⟨q584, p585, l586, o587⟩ : ∃ q, g557 8 = .pointer (some ⟨q, 0, none⟩) ∧ v528.heap.size ≤ q ∧ OkB v557 q 2 := E557.facts 8 (by decide)
  have h588 : w.heap.size ≤ q584 := Nat.le_trans HB l586
  obtain ⟨t593, x595, A596, m597, c598, e599, b594⟩ := put_info (E557.facts 9 (by decide)) p577 f572.shape
  obtain ⟨t601, x603, A604, m605, c606, e607, b602⟩ := put_info (E557.facts 10 (by decide)) p585 f573.shape
  have f608 : Cz v557 (.agg #[.bool x603, .slice A604 m605 c606]) (md z u) := f573.at e607.symm
  refine then_normal ?_
  refine wp_seq ?_
  refine wp_block ?_
  refine wp_seq ?_
  have HB : w.heap.size ≤ v557.heap.size := T558.size
  refine wp_plan_seq [.val (.is (.int .i64 0)), .val (.is (.bool false)), .val (.is (.bool false))] [] [] w.heap.size (by kernel_rfl) (by kernel_rfl) trivial HB ?_ ?_
  · exact ⟨fun s v h => does_val rfl rfl (x_move) ((h.same 8 rfl).trans e575),
      fun s v h => does_val rfl rfl (x_neq_err (h.dep 0 rfl) rfl) rfl,
      fun s v h => does_val rfl rfl (x_assign) (h.dep 1 rfl), trivial⟩
  intro g609 ts v609 hts E609
  simp only [fillL, Nat.reduceAdd, List.setIfInBounds_toArray, List.set_cons_zero, List.set_cons_succ] at hts
  subst hts
  have T610 : Below w.heap.size w v609 := T558.trans E609.below
  have l611 : q535 < v557.heap.size := b562.lt
  have l612 : q541 < v557.heap.size := b563.lt
  have l613 : q548 < v557.heap.size := b564.lt
  have l614 : q576 < v557.heap.size := b594.lt
  have l615 : q584 < v557.heap.size := b602.lt
  have b616 : Bx v609 q535 24 #[.bool na0, .slice A0 n0 c0] := (E609.far q535 b562.lt (by simp)).trans b562
  have b617 : Bx v609 q541 24 #[.bool na1, .slice A1 n1 c1] := (E609.far q541 b563.lt (by simp)).trans b563
  have b618 : Bx v609 q548 24 #[.bool false, .slice none 0 0] := (E609.far q548 b564.lt (by simp)).trans b564
  have b619 : Bx v609 q576 t593 #[.bool x595, .slice A596 m597 c598] := (E609.far q576 b594.lt (by simp)).trans b594
  have b620 : Bx v609 q584 t601 #[.bool x603, .slice A604 m605 c606] := (E609.far q584 b602.lt (by simp)).trans b602
  have f631 := f608.mono E609.mono
  have e634 : g609 2 = (.bool false) := E609.facts 2 (by decide)
  refine then_normal ?_
  refine wp_cond_false e634 ?_
  refine wp_seq ?_
  have HB : w.heap.size ≤ v609.heap.size := T610.size
  refine wp_plan_seq [.val (.cz (md z u)), .val (.is (.int .i64 (md z u).sign)), .val (.is (.bool true)), .val (.is (.bool true))] [] [] w.heap.size (by kernel_rfl) (by kernel_rfl) trivial HB ?_ ?_
  · exact ⟨fun s v h => does_val rfl rfl (x_load_z ((h.same 7 rfl).trans p585) ((h.far q584 b620.lt (by simp)).trans b620)) (f631.mono h.mono),
      fun s v h => does_call rfl rfl (x_call1 Try.call39) (sign_k ((h.dep 0 rfl).az (N := N1) (md_len hu la1))),
      fun s v h => does_val rfl rfl (x_neq_int (h.dep 1 rfl) rfl) (congrArg (fun x => Value.bool (!x)) d1),
      fun s v h => does_val rfl rfl (x_assign) (h.dep 2 rfl), trivial⟩
  intro g635 ts v635 hts E635
  simp only [fillL, Nat.reduceAdd, List.setIfInBounds_toArray, List.set_cons_zero, List.set_cons_succ] at hts
  subst hts
  have T636 : Below w.heap.size w v635 := T610.trans E635.below
  have l637 : q535 < v609.heap.size := b616.lt
  have l638 : q541 < v609.heap.size := b617.lt
  have l639 : q548 < v609.heap.size := b618.lt
  have l640 : q576 < v609.heap.size := b619.lt
  have l641 : q584 < v609.heap.size := b620.lt
  have b642 : Bx v635 q535 24 #[.bool na0, .slice A0 n0 c0] := (E635.far q535 b616.lt (by simp)).trans b616
  have b643 : Bx v635 q541 24 #[.bool na1, .slice A1 n1 c1] := (E635.far q541 b617.lt (by simp)).trans b617
  have b644 : Bx v635 q548 24 #[.bool false, .slice none 0 0] := (E635.far q548 b618.lt (by simp)).trans b618
  have b645 : Bx v635 q576 t593 #[.bool x595, .slice A596 m597 c598] := (E635.far q576 b619.lt (by simp)).trans b619
  have b646 : Bx v635 q584 t601 #[.bool x603, .slice A604 m605 c606] := (E635.far q584 b620.lt (by simp)).trans b620
  have e661 : g635 3 = (.bool true) := E635.facts 3 (by decide)
  refine then_normal ?_
  refine wp_cond_true e661 ?_
  refine wp_seq ?_
  have HB : w.heap.size ≤ v635.heap.size := T636.size
  refine wp_plan_seq [.val (.is (.agg #[.bool false, .slice none 0 0])), .put 4 25, .val (.is (.int .i64 20))] [4] [q548] w.heap.size (by kernel_rfl) (by kernel_rfl) ⟨p549, b644.lt, (by simp), trivial⟩ HB ?_ ?_
  · exact ⟨fun s v h => does_val rfl rfl x_build0 rfl,
      fun s v h => does_put_z rfl rfl ((h.same 4 rfl).trans p549) ⟨_, _, _, _, (h.dep 0 rfl)⟩ (h.mono.ok _ _ b644.ok2) h554,
      fun s v h => does_val rfl rfl (x_assign) rfl, trivial⟩
  intro g662 ts v662 hts E662
  simp only [fillL, Nat.reduceAdd, List.setIfInBounds_toArray, List.set_cons_zero, List.set_cons_succ] at hts
  subst hts
  have T663 : Below w.heap.size w v662 := T636.trans E662.below
  have l664 : q535 < v635.heap.size := b642.lt
  have l665 : q541 < v635.heap.size := b643.lt
  have l666 : q548 < v635.heap.size := b644.lt
  have l667 : q576 < v635.heap.size := b645.lt
  have l668 : q584 < v635.heap.size := b646.lt
  have e685 : g662 0 = (.agg #[.bool false, .slice none 0 0]) := E662.facts 0 (by decide)
  have e686 : g662 2 = (.int .i64 20) := E662.facts 2 (by decide)
  obtain ⟨t687, b688⟩ := put_lit (E662.facts 1 (by decide)) p549 e685
  have f689 : Cz v662 (.agg #[.bool false, .slice none 0 0]) 0 := cz_zero _
  refine then_normal ?_
  refine wp_ret ?_
  exact bodyPost_ret (ret_ct rfl p549 b688) rfl ⟨_, rfl, ⟨_, _, rfl, f689, e686⟩, T663⟩

set_option maxHeartbeats 4000000 in
set_option maxRecDepth 8000 in
theorem zexact_z {w : World} {x : Value} {z : Int} {N0 : Nat} (h0 : Az N0 w x z) {y : Value} {u : Int} {N1 : Nat} (h1 : Az N1 w y u) (hu : u = 0)  : Calls Try.prog 26 #[x, y] w (Ret (.tup2 (.cz 0) (.is (.int .i64 11))) w) := by
  have la0 := h0.len
  obtain ⟨na0, A0, n0, c0, M0, rfl, hm0, hz0⟩ := h0.parts
  have la1 := h1.len
  obtain ⟨na1, A1, n1, c1, M1, rfl, hm1, hz1⟩ := h1.parts
  have T0 : Below w.heap.size w w := Below.refl _ _
  go_enter Try.func26, Try.ntmps26
  refine wp_seq ?_
  have HB : w.heap.size ≤ w.heap.size := T0.size
  refine wp_plan_seq [.new 2 (some (24, #[.bool na0, .slice A0 n0 c0])), .new 2 (some (24, #[.bool na1, .slice A1 n1 c1])), .new 2 (some (24, #[.bool false, .slice none 0 0])), .val (.is (.int .i64 0))] [] [] w.heap.size (by kernel_rfl) (by kernel_rfl) trivial HB ?_ ?_
  · exact ⟨fun s v h => does_new rfl rfl (x_box_z (h.same 0 rfl)) (okz _ _ _ _) rfl (.inr rfl),
      fun s v h => does_new rfl rfl (x_box_z (h.same 1 rfl)) (okz _ _ _ _) rfl (.inr rfl),
      fun s v h => does_new rfl rfl x_alloc_z (okz _ _ _ _) rfl (.inr rfl),
      fun s v h => does_val rfl rfl (x_assign) rfl, trivial⟩
  intro g690 ts v690 hts E690
  simp only [fillL, Nat.reduceAdd, List.setIfInBounds_toArray, List.set_cons_zero, List.set_cons_succ] at hts
  subst hts
  have T691 : Below w.heap.size w v690 := T0.trans E690.below
  have f692 := h0.mono E690.mono
  have f694 := h1.mono E690.mono
  obtain ⟨q697, p698, l699, o700, b701⟩ : ∃ q, g690 0 = .pointer (some ⟨q, 0, none⟩) ∧ w.heap.size ≤ q ∧ OkB v690 q 2 ∧ Bx v690 q 24 #[.bool na0, .slice A0 n0 c0] := E690.facts 0 (by decide)
  have h702 : w.heap.size ≤ q697 := Nat.le_trans HB l699
  obtain ⟨q703, p704, l705, o706, b707⟩ : ∃ q, g690 1 = .pointer (some ⟨q, 0, none⟩) ∧ w.heap.size ≤ q ∧ OkB v690 q 2 ∧ Bx v690 q 24 #[.bool na1, .slice A1 n1 c1] := E690.facts 1 (by decide)
  have h708 : w.heap.size ≤ q703 := Nat.le_trans HB l705
  obtain ⟨q710, p711, l712, o713, b714⟩ : ∃ q, g690 2 = .pointer (some ⟨q, 0, none⟩) ∧ w.heap.size ≤ q ∧ OkB v690 q 2 ∧ Bx v690 q 24 #[.bool false, .slice none 0 0] := E690.facts 2 (by decide)
  have h716 : w.heap.size ≤ q710 := Nat.le_trans HB l712
  refine then_normal ?_
  refine wp_seq ?_
  have HB : w.heap.size ≤ v690.heap.size := T691.size
  refine wp_plan_seq [.val (.az N0 z), .val (.az N1 u), .val (.tup3 (.cz 0) (.cz 0) (.is (.int .i64 11))), .val (.tup3 (.cz 0) (.cz 0) (.is (.int .i64 11))), .val (.cz 0), .val (.cz 0), .val (.is (.int .i64 11)), .new 2 none, .new 2 none, .put 6 13, .put 7 14, .val (.is (.int .i64 11))] [] [] w.heap.size (by kernel_rfl) (by kernel_rfl) trivial HB ?_ ?_
  · exact ⟨fun s v h => does_val rfl rfl (x_load_z ((h.same 2 rfl).trans p698) ((h.far q697 b701.lt (by simp)).trans b701)) (f692.mono h.mono),
      fun s v h => does_val rfl rfl (x_load_z ((h.same 3 rfl).trans p704) ((h.far q703 b707.lt (by simp)).trans b707)) (f694.mono h.mono),
      fun s v h => does_call rfl rfl (x_call2 Try.call24) (zfloor0_k (h.dep 0 rfl) (h.dep 1 rfl) hu),
      fun s v h => does_val rfl rfl (x_move) (h.dep 2 rfl),
      fun s v h => by obtain ⟨r0, r1, r2, e, f0, f1, f2⟩ := tup3_at (h.dep 3 rfl); exact does_val rfl rfl (x_ext e rfl) f0,
      fun s v h => by obtain ⟨r0, r1, r2, e, f0, f1, f2⟩ := tup3_at (h.dep 3 rfl); exact does_val rfl rfl (x_ext e rfl) f1,
      fun s v h => by obtain ⟨r0, r1, r2, e, f0, f1, f2⟩ := tup3_at (h.dep 3 rfl); exact does_val rfl rfl (x_ext e rfl) f2,
      fun s v h => does_new rfl rfl x_alloc_z (okz _ _ _ _) rfl (.inl rfl),
      fun s v h => does_new rfl rfl x_alloc_z (okz _ _ _ _) rfl (.inl rfl),
      fun s v h => by obtain ⟨q, e1, e2, e3⟩ := new_at (h.dep 7 rfl); exact does_put_z rfl rfl e1 (h.dep 4 rfl).shape e3 (Nat.le_trans HB e2),
      fun s v h => by obtain ⟨q, e1, e2, e3⟩ := new_at (h.dep 8 rfl); exact does_put_z rfl rfl e1 (h.dep 5 rfl).shape e3 (Nat.le_trans HB e2),
      fun s v h => does_val rfl rfl (x_assign) (h.dep 6 rfl), trivial⟩
  intro g719 ts v719 hts E719
  simp only [fillL, Nat.reduceAdd, List.setIfInBounds_toArray, List.set_cons_zero, List.set_cons_succ] at hts
  subst hts
  have T720 : Below w.heap.size w v719 := T691.trans E719.below
  have l721 : q697 < v690.heap.size := b701.lt
  have l722 : q703 < v690.heap.size := b707.lt
  have l723 : q710 < v690.heap.size := b714.lt
  have b724 : Bx v719 q697 24 #[.bool na0, .slice A0 n0 c0] := (E719.far q697 b701.lt (by simp)).trans b701
  have b725 : Bx v719 q703 24 #[.bool na1, .slice A1 n1 c1] := (E719.far q703 b707.lt (by simp)).trans b707
  have b726 : Bx v719 q710 24 #[.bool false, .slice none 0 0] := (E719.far q710 b714.lt (by simp)).trans b714
  have f734 : Cz v719 (g719 4) 0 := E719.facts 4 (by decide)
  have f735 : Cz v719 (g719 5) 0 := E719.facts 5 (by decide)
  have e737 : g719 11 = (.int .i64 11) := E719.facts 11 (by decide)
  obtain ⟨q738, p739, l740, o741⟩ : ∃ q, g719 7 = .pointer (some ⟨q, 0, none⟩) ∧ v690.heap.size ≤ q ∧ OkB v719 q 2 := E719.facts 7 (by decide)
  have h742 : w.heap.size ≤ q738 := Nat.le_trans HB l740
  obtain ⟨q746, p747, l748, o749⟩ : ∃ q, g719 8 = .pointer (some ⟨q, 0, none⟩) ∧ v690.heap.size ≤ q ∧ OkB v719 q 2 := E719.facts 8 (by decide)
  have h750 : w.heap.size ≤ q746 := Nat.le_trans HB l748
  obtain ⟨t755, x757, A758, m759, c760, e761, b756⟩ := put_info (E719.facts 9 (by decide)) p739 f734.shape
  obtain ⟨t763, x765, A766, m767, c768, e769, b764⟩ := put_info (E719.facts 10 (by decide)) p747 f735.shape
  refine then_normal ?_
  refine wp_seq ?_
  refine wp_block ?_
  refine wp_seq ?_
  have HB : w.heap.size ≤ v719.heap.size := T720.size
  refine wp_plan_seq [.val (.is (.int .i64 11)), .val (.is (.bool true)), .val (.is (.bool true))] [] [] w.heap.size (by kernel_rfl) (by kernel_rfl) trivial HB ?_ ?_
  · exact ⟨fun s v h => does_val rfl rfl (x_move) ((h.same 8 rfl).trans e737),
      fun s v h => does_val rfl rfl (x_neq_err (h.dep 0 rfl) rfl) rfl,
      fun s v h => does_val rfl rfl (x_assign) (h.dep 1 rfl), trivial⟩
  intro g771 ts v771 hts E771
  simp only [fillL, Nat.reduceAdd, List.setIfInBounds_toArray, List.set_cons_zero, List.set_cons_succ] at hts
  subst hts
  have T772 : Below w.heap.size w v771 := T720.trans E771.below
  have l773 : q697 < v719.heap.size := b724.lt
  have l774 : q703 < v719.heap.size := b725.lt
  have l775 : q710 < v719.heap.size := b726.lt
  have l776 : q738 < v719.heap.size := b756.lt
  have l777 : q746 < v719.heap.size := b764.lt
  have b778 : Bx v771 q697 24 #[.bool na0, .slice A0 n0 c0] := (E771.far q697 b724.lt (by simp)).trans b724
  have b779 : Bx v771 q703 24 #[.bool na1, .slice A1 n1 c1] := (E771.far q703 b725.lt (by simp)).trans b725
  have b780 : Bx v771 q710 24 #[.bool false, .slice none 0 0] := (E771.far q710 b726.lt (by simp)).trans b726
  have b781 : Bx v771 q738 t755 #[.bool x757, .slice A758 m759 c760] := (E771.far q738 b756.lt (by simp)).trans b756
  have b782 : Bx v771 q746 t763 #[.bool x765, .slice A766 m767 c768] := (E771.far q746 b764.lt (by simp)).trans b764
  have e796 : g771 2 = (.bool true) := E771.facts 2 (by decide)
  refine then_normal ?_
  refine wp_cond_true e796 ?_
  refine wp_seq ?_
  have HB : w.heap.size ≤ v771.heap.size := T772.size
  refine wp_plan_seq [.val (.is (.agg #[.bool false, .slice none 0 0])), .val (.is (.int .i64 11)), .put 4 19, .val (.is (.int .i64 11))] [4] [q710] w.heap.size (by kernel_rfl) (by kernel_rfl) ⟨p711, b780.lt, (by simp), trivial⟩ HB ?_ ?_
  · exact ⟨fun s v h => does_val rfl rfl x_build0 rfl,
      fun s v h => does_val rfl rfl (x_move) ((h.same 8 rfl).trans e737),
      fun s v h => does_put_z rfl rfl ((h.same 4 rfl).trans p711) ⟨_, _, _, _, (h.dep 0 rfl)⟩ (h.mono.ok _ _ b780.ok2) h716,
      fun s v h => does_val rfl rfl (x_assign) (h.dep 1 rfl), trivial⟩
  intro g797 ts v797 hts E797
  simp only [fillL, Nat.reduceAdd, List.setIfInBounds_toArray, List.set_cons_zero, List.set_cons_succ] at hts
  subst hts
  have T798 : Below w.heap.size w v797 := T772.trans E797.below
  have l799 : q697 < v771.heap.size := b778.lt
  have l800 : q703 < v771.heap.size := b779.lt
  have l801 : q710 < v771.heap.size := b780.lt
  have l802 : q738 < v771.heap.size := b781.lt
  have l803 : q746 < v771.heap.size := b782.lt
  have e819 : g797 0 = (.agg #[.bool false, .slice none 0 0]) := E797.facts 0 (by decide)
  have e821 : g797 3 = (.int .i64 11) := E797.facts 3 (by decide)
  obtain ⟨t822, b823⟩ := put_lit (E797.facts 2 (by decide)) p711 e819
  have f824 : Cz v797 (.agg #[.bool false, .slice none 0 0]) 0 := cz_zero _
  refine then_normal ?_
  refine wp_ret ?_
  exact bodyPost_ret (ret_ct rfl p711 b823) rfl ⟨_, rfl, ⟨_, _, rfl, f824, e821⟩, T798⟩

set_option maxHeartbeats 4000000 in
set_option maxRecDepth 8000 in
theorem zroot_a {w : World} {x : Value} {z : Int} {N0 : Nat} (h0 : Az N0 w x z) (hN0 : N0 ≤ 35184372088800) (d : decide (z.sign < 0) = false)  : Calls Try.prog 17 #[x] w (Ret (.tup2 (.cz (rootN z.natAbs : Int)) (.is (.int .i64 0))) w) := by
  have la0 := h0.len
  obtain ⟨na0, A0, n0, c0, M0, rfl, hm0, hz0⟩ := h0.parts
  have T0 : Below w.heap.size w w := Below.refl _ _
  go_enter Try.func17, Try.ntmps17
  refine wp_seq ?_
  have HB : w.heap.size ≤ w.heap.size := T0.size
  refine wp_plan_seq [.new 2 (some (24, #[.bool na0, .slice A0 n0 c0])), .new 2 (some (24, #[.bool false, .slice none 0 0])), .val (.is (.int .i64 0))] [] [] w.heap.size (by kernel_rfl) (by kernel_rfl) trivial HB ?_ ?_
  · exact ⟨fun s v h => does_new rfl rfl (x_box_z (h.same 0 rfl)) (okz _ _ _ _) rfl (.inr rfl),
      fun s v h => does_new rfl rfl x_alloc_z (okz _ _ _ _) rfl (.inr rfl),
      fun s v h => does_val rfl rfl (x_assign) rfl, trivial⟩
  intro g825 ts v825 hts E825
  simp only [fillL, Nat.reduceAdd, List.setIfInBounds_toArray, List.set_cons_zero, List.set_cons_succ] at hts
  subst hts
  have T826 : Below w.heap.size w v825 := T0.trans E825.below
  have f827 := h0.mono E825.mono
  have f828 := hm0.mono E825.mono
  obtain ⟨q830, p831, l832, o833, b834⟩ : ∃ q, g825 0 = .pointer (some ⟨q, 0, none⟩) ∧ w.heap.size ≤ q ∧ OkB v825 q 2 ∧ Bx v825 q 24 #[.bool na0, .slice A0 n0 c0] := E825.facts 0 (by decide)
  have h835 : w.heap.size ≤ q830 := Nat.le_trans HB l832
  obtain ⟨q836, p837, l838, o839, b840⟩ : ∃ q, g825 1 = .pointer (some ⟨q, 0, none⟩) ∧ w.heap.size ≤ q ∧ OkB v825 q 2 ∧ Bx v825 q 24 #[.bool false, .slice none 0 0] := E825.facts 1 (by decide)
  have h842 : w.heap.size ≤ q836 := Nat.le_trans HB l838
  have n843 : q830 ≠ q836 := apart_ne (E825.apart 0 1 (by decide) (by decide) (by decide) ⟨_, _, rfl⟩ ⟨_, _, rfl⟩) p831 p837
  refine then_normal ?_
  refine wp_seq ?_
  refine wp_seq ?_
  have HB : w.heap.size ≤ v825.heap.size := T826.size
  refine wp_plan_seq [.val (.az N0 z), .val (.is (.int .i64 z.sign)), .val (.is (.bool false))] [] [] w.heap.size (by kernel_rfl) (by kernel_rfl) trivial HB ?_ ?_
  · exact ⟨fun s v h => does_val rfl rfl (x_load_z ((h.same 1 rfl).trans p831) ((h.far q830 b834.lt (by simp)).trans b834)) (f827.mono h.mono),
      fun s v h => does_call rfl rfl (x_call1 Try.call39) (sign_k (h.dep 0 rfl)),
      fun s v h => does_val rfl rfl (x_lss (h.dep 1 rfl) rfl) (congrArg Value.bool d), trivial⟩
  intro g844 ts v844 hts E844
  simp only [fillL, Nat.reduceAdd, List.setIfInBounds_toArray, List.set_cons_zero, List.set_cons_succ] at hts
  subst hts
  have T845 : Below w.heap.size w v844 := T826.trans E844.below
  have l846 : q830 < v825.heap.size := b834.lt
  have l847 : q836 < v825.heap.size := b840.lt
  have b848 : Bx v844 q830 24 #[.bool na0, .slice A0 n0 c0] := (E844.far q830 b834.lt (by simp)).trans b834
  have b849 : Bx v844 q836 24 #[.bool false, .slice none 0 0] := (E844.far q836 b840.lt (by simp)).trans b840
  have f851 := f828.mono E844.mono
  have e855 : g844 2 = (.bool false) := E844.facts 2 (by decide)
  refine then_normal ?_
  refine wp_cond_false e855 ?_
  refine wp_skip ?_
  refine then_normal ?_
  refine wp_seq ?_
  have HB : w.heap.size ≤ v844.heap.size := T845.size
  refine wp_plan_seq [.val (.is (.pointer (some ⟨q830, 1, none⟩))), .val (.nz N0 M0), .val (.nz N0 (rootN M0)), .val (.cz (zof false (rootN M0))), .put 2 11, .val (.is (.int .i64 0))] [2] [q836] w.heap.size (by kernel_rfl) (by kernel_rfl) ⟨p837, b849.lt, (by simp), trivial⟩ HB ?_ ?_
  · exact ⟨fun s v h => does_val rfl rfl (x_fld (by decide) ((h.same 1 rfl).trans p831)) rfl,
      fun s v h => does_val rfl rfl (x_load_s (h.dep 0 rfl) ((h.far q830 b848.lt (nin1 n843)).trans b848)) (f851.mono h.mono),
      fun s v h => does_call rfl rfl (x_call1 Try.call58) (nroot_k (h.dep 1 rfl) (by omega)),
      fun s v h => does_call rfl rfl (x_call2 Try.call53) (zmade_k rfl (h.dep 2 rfl)),
      fun s v h => does_put_z rfl rfl ((h.same 2 rfl).trans p837) (h.dep 3 rfl).shape (h.mono.ok _ _ b849.ok2) h842,
      fun s v h => does_val rfl rfl (x_assign) rfl, trivial⟩
  intro g856 ts v856 hts E856
  simp only [fillL, Nat.reduceAdd, List.setIfInBounds_toArray, List.set_cons_zero, List.set_cons_succ] at hts
  subst hts
  have T857 : Below w.heap.size w v856 := T845.trans E856.below
  have l858 : q830 < v844.heap.size := b848.lt
  have l859 : q836 < v844.heap.size := b849.lt
  have f867 : Cz v856 (g856 3) (zof false (rootN M0)) := E856.facts 3 (by decide)
  have e868 : g856 5 = (.int .i64 0) := E856.facts 5 (by decide)
  obtain ⟨t869, x871, A872, m873, c874, e875, b870⟩ := put_info (E856.facts 4 (by decide)) p837 f867.shape
  have f876 : Cz v856 (.agg #[.bool x871, .slice A872 m873 c874]) (zof false (rootN M0)) := f867.at e875.symm
  refine then_normal ?_
  refine wp_ret ?_
  exact bodyPost_ret (ret_ct rfl p837 b870) rfl ⟨_, rfl, ⟨_, _, rfl, (by have := f876; rw [← hz0, zof_abs]; exact this), e868⟩, T857⟩

set_option maxHeartbeats 4000000 in
set_option maxRecDepth 8000 in
theorem zroot_b {w : World} {x : Value} {z : Int} {N0 : Nat} (h0 : Az N0 w x z) (d : decide (z.sign < 0) = true)  : Calls Try.prog 17 #[x] w (Ret (.tup2 (.cz 0) (.is (.int .i64 21))) w) := by
  have la0 := h0.len
  obtain ⟨na0, A0, n0, c0, M0, rfl, hm0, hz0⟩ := h0.parts
  have T0 : Below w.heap.size w w := Below.refl _ _
  go_enter Try.func17, Try.ntmps17
  refine wp_seq ?_
  have HB : w.heap.size ≤ w.heap.size := T0.size
  refine wp_plan_seq [.new 2 (some (24, #[.bool na0, .slice A0 n0 c0])), .new 2 (some (24, #[.bool false, .slice none 0 0])), .val (.is (.int .i64 0))] [] [] w.heap.size (by kernel_rfl) (by kernel_rfl) trivial HB ?_ ?_
  · exact ⟨fun s v h => does_new rfl rfl (x_box_z (h.same 0 rfl)) (okz _ _ _ _) rfl (.inr rfl),
      fun s v h => does_new rfl rfl x_alloc_z (okz _ _ _ _) rfl (.inr rfl),
      fun s v h => does_val rfl rfl (x_assign) rfl, trivial⟩
  intro g877 ts v877 hts E877
  simp only [fillL, Nat.reduceAdd, List.setIfInBounds_toArray, List.set_cons_zero, List.set_cons_succ] at hts
  subst hts
  have T878 : Below w.heap.size w v877 := T0.trans E877.below
  have f879 := h0.mono E877.mono
  obtain ⟨q882, p883, l884, o885, b886⟩ : ∃ q, g877 0 = .pointer (some ⟨q, 0, none⟩) ∧ w.heap.size ≤ q ∧ OkB v877 q 2 ∧ Bx v877 q 24 #[.bool na0, .slice A0 n0 c0] := E877.facts 0 (by decide)
  have h887 : w.heap.size ≤ q882 := Nat.le_trans HB l884
  obtain ⟨q888, p889, l890, o891, b892⟩ : ∃ q, g877 1 = .pointer (some ⟨q, 0, none⟩) ∧ w.heap.size ≤ q ∧ OkB v877 q 2 ∧ Bx v877 q 24 #[.bool false, .slice none 0 0] := E877.facts 1 (by decide)
  have h894 : w.heap.size ≤ q888 := Nat.le_trans HB l890
  refine then_normal ?_
  refine wp_seq ?_
  refine wp_seq ?_
  have HB : w.heap.size ≤ v877.heap.size := T878.size
  refine wp_plan_seq [.val (.az N0 z), .val (.is (.int .i64 z.sign)), .val (.is (.bool true))] [] [] w.heap.size (by kernel_rfl) (by kernel_rfl) trivial HB ?_ ?_
  · exact ⟨fun s v h => does_val rfl rfl (x_load_z ((h.same 1 rfl).trans p883) ((h.far q882 b886.lt (by simp)).trans b886)) (f879.mono h.mono),
      fun s v h => does_call rfl rfl (x_call1 Try.call39) (sign_k (h.dep 0 rfl)),
      fun s v h => does_val rfl rfl (x_lss (h.dep 1 rfl) rfl) (congrArg Value.bool d), trivial⟩
  intro g896 ts v896 hts E896
  simp only [fillL, Nat.reduceAdd, List.setIfInBounds_toArray, List.set_cons_zero, List.set_cons_succ] at hts
  subst hts
  have T897 : Below w.heap.size w v896 := T878.trans E896.below
  have l898 : q882 < v877.heap.size := b886.lt
  have l899 : q888 < v877.heap.size := b892.lt
  have b900 : Bx v896 q882 24 #[.bool na0, .slice A0 n0 c0] := (E896.far q882 b886.lt (by simp)).trans b886
  have b901 : Bx v896 q888 24 #[.bool false, .slice none 0 0] := (E896.far q888 b892.lt (by simp)).trans b892
  have e907 : g896 2 = (.bool true) := E896.facts 2 (by decide)
  refine then_normal ?_
  refine wp_cond_true e907 ?_
  refine wp_seq ?_
  have HB : w.heap.size ≤ v896.heap.size := T897.size
  refine wp_plan_seq [.val (.is (.agg #[.bool false, .slice none 0 0])), .put 2 7, .val (.is (.int .i64 21))] [2] [q888] w.heap.size (by kernel_rfl) (by kernel_rfl) ⟨p889, b901.lt, (by simp), trivial⟩ HB ?_ ?_
  · exact ⟨fun s v h => does_val rfl rfl x_build0 rfl,
      fun s v h => does_put_z rfl rfl ((h.same 2 rfl).trans p889) ⟨_, _, _, _, (h.dep 0 rfl)⟩ (h.mono.ok _ _ b901.ok2) h894,
      fun s v h => does_val rfl rfl (x_assign) rfl, trivial⟩
  intro g908 ts v908 hts E908
  simp only [fillL, Nat.reduceAdd, List.setIfInBounds_toArray, List.set_cons_zero, List.set_cons_succ] at hts
  subst hts
  have T909 : Below w.heap.size w v908 := T897.trans E908.below
  have l910 : q882 < v896.heap.size := b900.lt
  have l911 : q888 < v896.heap.size := b901.lt
  have e917 : g908 0 = (.agg #[.bool false, .slice none 0 0]) := E908.facts 0 (by decide)
  have e918 : g908 2 = (.int .i64 21) := E908.facts 2 (by decide)
  obtain ⟨t919, b920⟩ := put_lit (E908.facts 1 (by decide)) p889 e917
  have f921 : Cz v908 (.agg #[.bool false, .slice none 0 0]) 0 := cz_zero _
  refine then_normal ?_
  refine wp_ret ?_
  exact bodyPost_ret (ret_ct rfl p889 b920) rfl ⟨_, rfl, ⟨_, _, rfl, f921, e918⟩, T909⟩

set_option maxHeartbeats 4000000 in
set_option maxRecDepth 8000 in
theorem r2root_a {w : World} {x : Value} {z : Int} {N0 : Nat} (h0 : Az N0 w x z) (hN0 : N0 ≤ 35184372088800) (d : decide (z.sign < 0) = false)  : Calls Try.prog 19 #[x] w (Ret (.tup2 (.cz (rootN z.natAbs : Int)) (.is (.int .i64 0))) w) := by
  have la0 := h0.len
  obtain ⟨na0, A0, n0, c0, M0, rfl, hm0, hz0⟩ := h0.parts
  have T0 : Below w.heap.size w w := Below.refl _ _
  go_enter Try.func19, Try.ntmps19
  refine wp_seq ?_
  have HB : w.heap.size ≤ w.heap.size := T0.size
  refine wp_plan_seq [.new 2 (some (24, #[.bool na0, .slice A0 n0 c0])), .new 2 (some (24, #[.bool false, .slice none 0 0])), .val (.is (.int .i64 0))] [] [] w.heap.size (by kernel_rfl) (by kernel_rfl) trivial HB ?_ ?_
  · exact ⟨fun s v h => does_new rfl rfl (x_box_z (h.same 0 rfl)) (okz _ _ _ _) rfl (.inr rfl),
      fun s v h => does_new rfl rfl x_alloc_z (okz _ _ _ _) rfl (.inr rfl),
      fun s v h => does_val rfl rfl (x_assign) rfl, trivial⟩
  intro g922 ts v922 hts E922
  simp only [fillL, Nat.reduceAdd, List.setIfInBounds_toArray, List.set_cons_zero, List.set_cons_succ] at hts
  subst hts
  have T923 : Below w.heap.size w v922 := T0.trans E922.below
  have f924 := h0.mono E922.mono
  have f925 := hm0.mono E922.mono
  obtain ⟨q927, p928, l929, o930, b931⟩ : ∃ q, g922 0 = .pointer (some ⟨q, 0, none⟩) ∧ w.heap.size ≤ q ∧ OkB v922 q 2 ∧ Bx v922 q 24 #[.bool na0, .slice A0 n0 c0] := E922.facts 0 (by decide)
  have h932 : w.heap.size ≤ q927 := Nat.le_trans HB l929
  obtain ⟨q933, p934, l935, o936, b937⟩ : ∃ q, g922 1 = .pointer (some ⟨q, 0, none⟩) ∧ w.heap.size ≤ q ∧ OkB v922 q 2 ∧ Bx v922 q 24 #[.bool false, .slice none 0 0] := E922.facts 1 (by decide)
  have h939 : w.heap.size ≤ q933 := Nat.le_trans HB l935
  have n940 : q927 ≠ q933 := apart_ne (E922.apart 0 1 (by decide) (by decide) (by decide) ⟨_, _, rfl⟩ ⟨_, _, rfl⟩) p928 p934
  refine then_normal ?_
  refine wp_seq ?_
  refine wp_seq ?_
  have HB : w.heap.size ≤ v922.heap.size := T923.size
  refine wp_plan_seq [.val (.az N0 z), .val (.is (.int .i64 z.sign)), .val (.is (.bool false))] [] [] w.heap.size (by kernel_rfl) (by kernel_rfl) trivial HB ?_ ?_
  · exact ⟨fun s v h => does_val rfl rfl (x_load_z ((h.same 1 rfl).trans p928) ((h.far q927 b931.lt (by simp)).trans b931)) (f924.mono h.mono),
      fun s v h => does_call rfl rfl (x_call1 Try.call28) (r2sign_k (h.dep 0 rfl) (by omega)),
      fun s v h => does_val rfl rfl (x_lss (h.dep 1 rfl) rfl) (congrArg Value.bool d), trivial⟩
  intro g941 ts v941 hts E941
  simp only [fillL, Nat.reduceAdd, List.setIfInBounds_toArray, List.set_cons_zero, List.set_cons_succ] at hts
  subst hts
  have T942 : Below w.heap.size w v941 := T923.trans E941.below
  have l943 : q927 < v922.heap.size := b931.lt
  have l944 : q933 < v922.heap.size := b937.lt
  have b945 : Bx v941 q927 24 #[.bool na0, .slice A0 n0 c0] := (E941.far q927 b931.lt (by simp)).trans b931
  have b946 : Bx v941 q933 24 #[.bool false, .slice none 0 0] := (E941.far q933 b937.lt (by simp)).trans b937
  have f948 := f925.mono E941.mono
  have e952 : g941 2 = (.bool false) := E941.facts 2 (by decide)
  refine then_normal ?_
  refine wp_cond_false e952 ?_
  refine wp_skip ?_
  refine then_normal ?_
  refine wp_seq ?_
  have HB : w.heap.size ≤ v941.heap.size := T942.size
  refine wp_plan_seq [.val (.is (.pointer (some ⟨q927, 1, none⟩))), .val (.nz N0 M0), .val (.nz N0 (rootN M0)), .val (.cz (zof false (rootN M0))), .put 2 11, .val (.is (.int .i64 0))] [2] [q933] w.heap.size (by kernel_rfl) (by kernel_rfl) ⟨p934, b946.lt, (by simp), trivial⟩ HB ?_ ?_
  · exact ⟨fun s v h => does_val rfl rfl (x_fld (by decide) ((h.same 1 rfl).trans p928)) rfl,
      fun s v h => does_val rfl rfl (x_load_s (h.dep 0 rfl) ((h.far q927 b945.lt (nin1 n940)).trans b945)) (f948.mono h.mono),
      fun s v h => does_call rfl rfl (x_call1 Try.call60) (rroot_k (h.dep 1 rfl) (by omega)),
      fun s v h => does_call rfl rfl (x_call2 Try.call59) (rmade_k rfl (h.dep 2 rfl) (by omega)),
      fun s v h => does_put_z rfl rfl ((h.same 2 rfl).trans p934) (h.dep 3 rfl).shape (h.mono.ok _ _ b946.ok2) h939,
      fun s v h => does_val rfl rfl (x_assign) rfl, trivial⟩
  intro g953 ts v953 hts E953
  simp only [fillL, Nat.reduceAdd, List.setIfInBounds_toArray, List.set_cons_zero, List.set_cons_succ] at hts
  subst hts
  have T954 : Below w.heap.size w v953 := T942.trans E953.below
  have l955 : q927 < v941.heap.size := b945.lt
  have l956 : q933 < v941.heap.size := b946.lt
  have f964 : Cz v953 (g953 3) (zof false (rootN M0)) := E953.facts 3 (by decide)
  have e965 : g953 5 = (.int .i64 0) := E953.facts 5 (by decide)
  obtain ⟨t966, x968, A969, m970, c971, e972, b967⟩ := put_info (E953.facts 4 (by decide)) p934 f964.shape
  have f973 : Cz v953 (.agg #[.bool x968, .slice A969 m970 c971]) (zof false (rootN M0)) := f964.at e972.symm
  refine then_normal ?_
  refine wp_ret ?_
  exact bodyPost_ret (ret_ct rfl p934 b967) rfl ⟨_, rfl, ⟨_, _, rfl, (by have := f973; rw [← hz0, zof_abs]; exact this), e965⟩, T954⟩

set_option maxHeartbeats 4000000 in
set_option maxRecDepth 8000 in
theorem r2root_b {w : World} {x : Value} {z : Int} {N0 : Nat} (h0 : Az N0 w x z) (hN0 : N0 ≤ 35184372088800) (d : decide (z.sign < 0) = true)  : Calls Try.prog 19 #[x] w (Ret (.tup2 (.cz 0) (.is (.int .i64 21))) w) := by
  have la0 := h0.len
  obtain ⟨na0, A0, n0, c0, M0, rfl, hm0, hz0⟩ := h0.parts
  have T0 : Below w.heap.size w w := Below.refl _ _
  go_enter Try.func19, Try.ntmps19
  refine wp_seq ?_
  have HB : w.heap.size ≤ w.heap.size := T0.size
  refine wp_plan_seq [.new 2 (some (24, #[.bool na0, .slice A0 n0 c0])), .new 2 (some (24, #[.bool false, .slice none 0 0])), .val (.is (.int .i64 0))] [] [] w.heap.size (by kernel_rfl) (by kernel_rfl) trivial HB ?_ ?_
  · exact ⟨fun s v h => does_new rfl rfl (x_box_z (h.same 0 rfl)) (okz _ _ _ _) rfl (.inr rfl),
      fun s v h => does_new rfl rfl x_alloc_z (okz _ _ _ _) rfl (.inr rfl),
      fun s v h => does_val rfl rfl (x_assign) rfl, trivial⟩
  intro g974 ts v974 hts E974
  simp only [fillL, Nat.reduceAdd, List.setIfInBounds_toArray, List.set_cons_zero, List.set_cons_succ] at hts
  subst hts
  have T975 : Below w.heap.size w v974 := T0.trans E974.below
  have f976 := h0.mono E974.mono
  obtain ⟨q979, p980, l981, o982, b983⟩ : ∃ q, g974 0 = .pointer (some ⟨q, 0, none⟩) ∧ w.heap.size ≤ q ∧ OkB v974 q 2 ∧ Bx v974 q 24 #[.bool na0, .slice A0 n0 c0] := E974.facts 0 (by decide)
  have h984 : w.heap.size ≤ q979 := Nat.le_trans HB l981
  obtain ⟨q985, p986, l987, o988, b989⟩ : ∃ q, g974 1 = .pointer (some ⟨q, 0, none⟩) ∧ w.heap.size ≤ q ∧ OkB v974 q 2 ∧ Bx v974 q 24 #[.bool false, .slice none 0 0] := E974.facts 1 (by decide)
  have h991 : w.heap.size ≤ q985 := Nat.le_trans HB l987
  refine then_normal ?_
  refine wp_seq ?_
  refine wp_seq ?_
  have HB : w.heap.size ≤ v974.heap.size := T975.size
  refine wp_plan_seq [.val (.az N0 z), .val (.is (.int .i64 z.sign)), .val (.is (.bool true))] [] [] w.heap.size (by kernel_rfl) (by kernel_rfl) trivial HB ?_ ?_
  · exact ⟨fun s v h => does_val rfl rfl (x_load_z ((h.same 1 rfl).trans p980) ((h.far q979 b983.lt (by simp)).trans b983)) (f976.mono h.mono),
      fun s v h => does_call rfl rfl (x_call1 Try.call28) (r2sign_k (h.dep 0 rfl) (by omega)),
      fun s v h => does_val rfl rfl (x_lss (h.dep 1 rfl) rfl) (congrArg Value.bool d), trivial⟩
  intro g993 ts v993 hts E993
  simp only [fillL, Nat.reduceAdd, List.setIfInBounds_toArray, List.set_cons_zero, List.set_cons_succ] at hts
  subst hts
  have T994 : Below w.heap.size w v993 := T975.trans E993.below
  have l995 : q979 < v974.heap.size := b983.lt
  have l996 : q985 < v974.heap.size := b989.lt
  have b997 : Bx v993 q979 24 #[.bool na0, .slice A0 n0 c0] := (E993.far q979 b983.lt (by simp)).trans b983
  have b998 : Bx v993 q985 24 #[.bool false, .slice none 0 0] := (E993.far q985 b989.lt (by simp)).trans b989
  have e1004 : g993 2 = (.bool true) := E993.facts 2 (by decide)
  refine then_normal ?_
  refine wp_cond_true e1004 ?_
  refine wp_seq ?_
  have HB : w.heap.size ≤ v993.heap.size := T994.size
  refine wp_plan_seq [.val (.is (.agg #[.bool false, .slice none 0 0])), .put 2 7, .val (.is (.int .i64 21))] [2] [q985] w.heap.size (by kernel_rfl) (by kernel_rfl) ⟨p986, b998.lt, (by simp), trivial⟩ HB ?_ ?_
  · exact ⟨fun s v h => does_val rfl rfl x_build0 rfl,
      fun s v h => does_put_z rfl rfl ((h.same 2 rfl).trans p986) ⟨_, _, _, _, (h.dep 0 rfl)⟩ (h.mono.ok _ _ b998.ok2) h991,
      fun s v h => does_val rfl rfl (x_assign) rfl, trivial⟩
  intro g1005 ts v1005 hts E1005
  simp only [fillL, Nat.reduceAdd, List.setIfInBounds_toArray, List.set_cons_zero, List.set_cons_succ] at hts
  subst hts
  have T1006 : Below w.heap.size w v1005 := T994.trans E1005.below
  have l1007 : q979 < v993.heap.size := b997.lt
  have l1008 : q985 < v993.heap.size := b998.lt
  have e1014 : g1005 0 = (.agg #[.bool false, .slice none 0 0]) := E1005.facts 0 (by decide)
  have e1015 : g1005 2 = (.int .i64 21) := E1005.facts 2 (by decide)
  obtain ⟨t1016, b1017⟩ := put_lit (E1005.facts 1 (by decide)) p986 e1014
  have f1018 : Cz v1005 (.agg #[.bool false, .slice none 0 0]) 0 := cz_zero _
  refine then_normal ?_
  refine wp_ret ?_
  exact bodyPost_ret (ret_ct rfl p986 b1017) rfl ⟨_, rfl, ⟨_, _, rfl, f1018, e1015⟩, T1006⟩

set_option maxHeartbeats 4000000 in
set_option maxRecDepth 8000 in
theorem r2near_k {w : World} {x : Value} {z : Int} {N0 : Nat} (h0 : Az N0 w x z) {y : Value} {u : Int} {N1 : Nat} (h1 : Az N1 w y u) (hN0 : N0 ≤ 17592186043000) (hN1 : N1 ≤ 17592186043000) (hu : 2 * u ≠ 0)  : Calls Try.prog 30 #[x, y] w (Ret (.cz (fl (2 * z + u) (2 * u))) w) := by
  have la0 := h0.len
  obtain ⟨na0, A0, n0, c0, M0, rfl, hm0, hz0⟩ := h0.parts
  have la1 := h1.len
  obtain ⟨na1, A1, n1, c1, M1, rfl, hm1, hz1⟩ := h1.parts
  have T0 : Below w.heap.size w w := Below.refl _ _
  go_enter Try.func30, Try.ntmps30
  refine wp_seq ?_
  have HB : w.heap.size ≤ w.heap.size := T0.size
  refine wp_plan_seq [.new 2 (some (24, #[.bool na0, .slice A0 n0 c0])), .new 2 (some (24, #[.bool na1, .slice A1 n1 c1])), .new 2 (some (24, #[.bool false, .slice none 0 0]))] [] [] w.heap.size (by kernel_rfl) (by kernel_rfl) trivial HB ?_ ?_
  · exact ⟨fun s v h => does_new rfl rfl (x_box_z (h.same 0 rfl)) (okz _ _ _ _) rfl (.inr rfl),
      fun s v h => does_new rfl rfl (x_box_z (h.same 1 rfl)) (okz _ _ _ _) rfl (.inr rfl),
      fun s v h => does_new rfl rfl x_alloc_z (okz _ _ _ _) rfl (.inr rfl), trivial⟩
  intro g1019 ts v1019 hts E1019
  simp only [fillL, Nat.reduceAdd, List.setIfInBounds_toArray, List.set_cons_zero, List.set_cons_succ] at hts
  subst hts
  have T1020 : Below w.heap.size w v1019 := T0.trans E1019.below
  have f1021 := h0.mono E1019.mono
  have f1023 := h1.mono E1019.mono
  obtain ⟨q1025, p1026, l1027, o1028, b1029⟩ : ∃ q, g1019 0 = .pointer (some ⟨q, 0, none⟩) ∧ w.heap.size ≤ q ∧ OkB v1019 q 2 ∧ Bx v1019 q 24 #[.bool na0, .slice A0 n0 c0] := E1019.facts 0 (by decide)
  have h1030 : w.heap.size ≤ q1025 := Nat.le_trans HB l1027
  obtain ⟨q1031, p1032, l1033, o1034, b1035⟩ : ∃ q, g1019 1 = .pointer (some ⟨q, 0, none⟩) ∧ w.heap.size ≤ q ∧ OkB v1019 q 2 ∧ Bx v1019 q 24 #[.bool na1, .slice A1 n1 c1] := E1019.facts 1 (by decide)
  have h1036 : w.heap.size ≤ q1031 := Nat.le_trans HB l1033
  obtain ⟨q1038, p1039, l1040, o1041, b1042⟩ : ∃ q, g1019 2 = .pointer (some ⟨q, 0, none⟩) ∧ w.heap.size ≤ q ∧ OkB v1019 q 2 ∧ Bx v1019 q 24 #[.bool false, .slice none 0 0] := E1019.facts 2 (by decide)
  have h1044 : w.heap.size ≤ q1038 := Nat.le_trans HB l1040
  refine then_normal ?_
  refine wp_seq ?_
  have HB : w.heap.size ≤ v1019.heap.size := T1020.size
  refine wp_plan_any [.val (.cz 2), .val (.az N0 z), .val (.cz (2 * z)), .val (.az N1 u), .val (.cz ((2 * z) + u)), .val (.cz 2), .val (.az N1 u), .val (.cz (2 * u)), .val (.tup2 (.cz (fl ((2 * z) + u) (2 * u))) (.cz (md ((2 * z) + u) (2 * u)))), .val (.tup2 (.cz (fl ((2 * z) + u) (2 * u))) (.cz (md ((2 * z) + u) (2 * u)))), .val (.cz (fl ((2 * z) + u) (2 * u))), .val (.cz (md ((2 * z) + u) (2 * u))), .new 2 none, .new 2 none, .put 5 17, .put 6 18] [] [] w.heap.size (by kernel_rfl) (by kernel_rfl) (by kernel_rfl) trivial HB ?_ ?_
  · exact ⟨fun s v h => does_call rfl rfl (x_call1 Try.call72) (r2of_k rfl (by decide) (by decide)),
      fun s v h => does_val rfl rfl (x_load_z ((h.same 2 rfl).trans p1026) ((h.far q1025 b1029.lt (by simp)).trans b1029)) (f1021.mono ((Mono.drew _).trans h.mono)),
      fun s v h => does_call rfl rfl (x_call2 Try.call71) (r2mul_k ((h.dep 0 rfl).az (N := 1) (show (digs (Int.natAbs 2)).length ≤ 1 from digs_len_le (by decide))) (h.dep 1 rfl) (by omega)),
      fun s v h => does_val rfl rfl (x_load_z ((h.same 3 rfl).trans p1032) ((h.far q1031 b1035.lt (by simp)).trans b1035)) (f1023.mono ((Mono.drew _).trans h.mono)),
      fun s v h => does_call rfl rfl (x_call2 Try.call49) (r2add_k ((h.dep 2 rfl).az (N := (1 + N0)) (len_mul (show (digs (Int.natAbs 2)).length ≤ 1 from digs_len_le (by decide)) la0)) (h.dep 3 rfl) (by omega) (by omega)),
      fun s v h => does_call rfl rfl (x_call1 Try.call72) (r2of_k rfl (by decide) (by decide)),
      fun s v h => does_val rfl rfl (x_load_z ((h.same 3 rfl).trans p1032) ((h.far q1031 b1035.lt (by simp)).trans b1035)) (f1023.mono ((Mono.drew _).trans h.mono)),
      fun s v h => does_call rfl rfl (x_call2 Try.call71) (r2mul_k ((h.dep 5 rfl).az (N := 1) (show (digs (Int.natAbs 2)).length ≤ 1 from digs_len_le (by decide))) (h.dep 6 rfl) (by omega)),
      fun s v h => does_call rfl rfl (x_call2 Try.call29) (r2floor_k ((h.dep 4 rfl).az (N := (max (1 + N0) N1 + 1)) (len_add' (n := (max (1 + N0) N1 + 1)) (len_mul (show (digs (Int.natAbs 2)).length ≤ 1 from digs_len_le (by decide)) la0) la1 (by omega) (by omega))) ((h.dep 7 rfl).az (N := (1 + N1)) (len_mul (show (digs (Int.natAbs 2)).length ≤ 1 from digs_len_le (by decide)) la1)) (by omega) (by omega) hu),
      fun s v h => does_val rfl rfl (x_move) (h.dep 8 rfl),
      fun s v h => by obtain ⟨r0, r1, e, f0, f1⟩ := tup2_at (h.dep 9 rfl); exact does_val rfl rfl (x_ext e rfl) f0,
      fun s v h => by obtain ⟨r0, r1, e, f0, f1⟩ := tup2_at (h.dep 9 rfl); exact does_val rfl rfl (x_ext e rfl) f1,
      fun s v h => does_new rfl rfl x_alloc_z (okz _ _ _ _) rfl (.inl rfl),
      fun s v h => does_new rfl rfl x_alloc_z (okz _ _ _ _) rfl (.inl rfl),
      fun s v h => by obtain ⟨q, e1, e2, e3⟩ := new_at (h.dep 12 rfl); exact does_put_z rfl rfl e1 (h.dep 10 rfl).shape e3 (Nat.le_trans HB e2),
      fun s v h => by obtain ⟨q, e1, e2, e3⟩ := new_at (h.dep 13 rfl); exact does_put_z rfl rfl e1 (h.dep 11 rfl).shape e3 (Nat.le_trans HB e2), trivial⟩
  intro g1047 ts v1047 hts E1047
  simp only [fillL, Nat.reduceAdd, List.setIfInBounds_toArray, List.set_cons_zero, List.set_cons_succ] at hts
  subst hts
  have T1048 : Below w.heap.size w v1047 := (below_toDrew T1020).trans E1047.below
  have l1049 : q1025 < v1019.heap.size := b1029.lt
  have l1050 : q1031 < v1019.heap.size := b1035.lt
  have l1051 : q1038 < v1019.heap.size := b1042.lt
  have b1052 : Bx v1047 q1025 24 #[.bool na0, .slice A0 n0 c0] := (E1047.far q1025 b1029.lt (by simp)).trans b1029
  have b1053 : Bx v1047 q1031 24 #[.bool na1, .slice A1 n1 c1] := (E1047.far q1031 b1035.lt (by simp)).trans b1035
  have b1054 : Bx v1047 q1038 24 #[.bool false, .slice none 0 0] := (E1047.far q1038 b1042.lt (by simp)).trans b1042
  have f1068 : Cz v1047 (g1047 10) (fl ((2 * z) + u) (2 * u)) := E1047.facts 10 (by decide)
  have f1069 : Cz v1047 (g1047 11) (md ((2 * z) + u) (2 * u)) := E1047.facts 11 (by decide)
  obtain ⟨q1070, p1071, l1072, o1073⟩ : ∃ q, g1047 12 = .pointer (some ⟨q, 0, none⟩) ∧ v1019.heap.size ≤ q ∧ OkB v1047 q 2 := E1047.facts 12 (by decide)
  have h1074 : w.heap.size ≤ q1070 := Nat.le_trans HB l1072
  have n1077 : q1038 ≠ q1070 := by omega
  obtain ⟨q1078, p1079, l1080, o1081⟩ : ∃ q, g1047 13 = .pointer (some ⟨q, 0, none⟩) ∧ v1019.heap.size ≤ q ∧ OkB v1047 q 2 := E1047.facts 13 (by decide)
  have h1082 : w.heap.size ≤ q1078 := Nat.le_trans HB l1080
  obtain ⟨t1087, x1089, A1090, m1091, c1092, e1093, b1088⟩ := put_info (E1047.facts 14 (by decide)) p1071 f1068.shape
  have f1094 : Cz v1047 (.agg #[.bool x1089, .slice A1090 m1091 c1092]) (fl ((2 * z) + u) (2 * u)) := f1068.at e1093.symm
  obtain ⟨t1095, x1097, A1098, m1099, c1100, e1101, b1096⟩ := put_info (E1047.facts 15 (by decide)) p1079 f1069.shape
  refine then_normal ?_
  refine wp_seq ?_
  have HB : w.heap.size ≤ v1047.heap.size := T1048.size
  refine wp_plan_seq [.val (.cz (fl ((2 * z) + u) (2 * u))), .put 4 19] [4] [q1038] w.heap.size (by kernel_rfl) (by kernel_rfl) ⟨p1039, b1054.lt, (by simp), trivial⟩ HB ?_ ?_
  · exact ⟨fun s v h => does_val rfl rfl (x_load_z ((h.same 5 rfl).trans p1071) ((h.far q1070 b1088.lt (nin1 n1077.symm)).trans b1088)) (f1094.mono h.mono),
      fun s v h => does_put_z rfl rfl ((h.same 4 rfl).trans p1039) (h.dep 0 rfl).shape (h.mono.ok _ _ b1054.ok2) h1044, trivial⟩
  intro g1103 ts v1103 hts E1103
  simp only [fillL, List.setIfInBounds_toArray, List.set_cons_zero, List.set_cons_succ] at hts
  subst hts
  have T1104 : Below w.heap.size w v1103 := T1048.trans E1103.below
  have l1105 : q1025 < v1047.heap.size := b1052.lt
  have l1106 : q1031 < v1047.heap.size := b1053.lt
  have l1107 : q1038 < v1047.heap.size := b1054.lt
  have l1108 : q1070 < v1047.heap.size := b1088.lt
  have l1109 : q1078 < v1047.heap.size := b1096.lt
  have f1131 : Cz v1103 (g1103 0) (fl ((2 * z) + u) (2 * u)) := E1103.facts 0 (by decide)
  obtain ⟨t1132, x1134, A1135, m1136, c1137, e1138, b1133⟩ := put_info (E1103.facts 1 (by decide)) p1039 f1131.shape
  have f1139 : Cz v1103 (.agg #[.bool x1134, .slice A1135 m1136 c1137]) (fl ((2 * z) + u) (2 * u)) := f1131.at e1138.symm
  refine then_normal ?_
  refine wp_ret ?_
  exact bodyPost_ret (ret_c rfl p1039 b1133) rfl ⟨_, rfl, f1139, T1104⟩

set_option maxHeartbeats 4000000 in
set_option maxRecDepth 8000 in
theorem r2exact_a {w : World} {x : Value} {z : Int} {N0 : Nat} (h0 : Az N0 w x z) {y : Value} {u : Int} {N1 : Nat} (h1 : Az N1 w y u) (hN0 : N0 ≤ 17592186043000) (hN1 : N1 ≤ 17592186043000) (hu : u ≠ 0) (d0 : (u.sign == 0) = false) (d1 : ((md z u).sign == 0) = true)  : Calls Try.prog 27 #[x, y] w (Ret (.tup2 (.cz (fl z u)) (.is (.int .i64 0))) w) := by
  have la0 := h0.len
  obtain ⟨na0, A0, n0, c0, M0, rfl, hm0, hz0⟩ := h0.parts
  have la1 := h1.len
  obtain ⟨na1, A1, n1, c1, M1, rfl, hm1, hz1⟩ := h1.parts
  have T0 : Below w.heap.size w w := Below.refl _ _
  go_enter Try.func27, Try.ntmps27
  refine wp_seq ?_
  have HB : w.heap.size ≤ w.heap.size := T0.size
  refine wp_plan_seq [.new 2 (some (24, #[.bool na0, .slice A0 n0 c0])), .new 2 (some (24, #[.bool na1, .slice A1 n1 c1])), .new 2 (some (24, #[.bool false, .slice none 0 0])), .val (.is (.int .i64 0))] [] [] w.heap.size (by kernel_rfl) (by kernel_rfl) trivial HB ?_ ?_
  · exact ⟨fun s v h => does_new rfl rfl (x_box_z (h.same 0 rfl)) (okz _ _ _ _) rfl (.inr rfl),
      fun s v h => does_new rfl rfl (x_box_z (h.same 1 rfl)) (okz _ _ _ _) rfl (.inr rfl),
      fun s v h => does_new rfl rfl x_alloc_z (okz _ _ _ _) rfl (.inr rfl),
      fun s v h => does_val rfl rfl (x_assign) rfl, trivial⟩
  intro g1140 ts v1140 hts E1140
  simp only [fillL, Nat.reduceAdd, List.setIfInBounds_toArray, List.set_cons_zero, List.set_cons_succ] at hts
  subst hts
  have T1141 : Below w.heap.size w v1140 := T0.trans E1140.below
  have f1142 := h0.mono E1140.mono
  have f1144 := h1.mono E1140.mono
  obtain ⟨q1147, p1148, l1149, o1150, b1151⟩ : ∃ q, g1140 0 = .pointer (some ⟨q, 0, none⟩) ∧ w.heap.size ≤ q ∧ OkB v1140 q 2 ∧ Bx v1140 q 24 #[.bool na0, .slice A0 n0 c0] := E1140.facts 0 (by decide)
  have h1152 : w.heap.size ≤ q1147 := Nat.le_trans HB l1149
  obtain ⟨q1153, p1154, l1155, o1156, b1157⟩ : ∃ q, g1140 1 = .pointer (some ⟨q, 0, none⟩) ∧ w.heap.size ≤ q ∧ OkB v1140 q 2 ∧ Bx v1140 q 24 #[.bool na1, .slice A1 n1 c1] := E1140.facts 1 (by decide)
  have h1158 : w.heap.size ≤ q1153 := Nat.le_trans HB l1155
  obtain ⟨q1160, p1161, l1162, o1163, b1164⟩ : ∃ q, g1140 2 = .pointer (some ⟨q, 0, none⟩) ∧ w.heap.size ≤ q ∧ OkB v1140 q 2 ∧ Bx v1140 q 24 #[.bool false, .slice none 0 0] := E1140.facts 2 (by decide)
  have h1166 : w.heap.size ≤ q1160 := Nat.le_trans HB l1162
  refine then_normal ?_
  refine wp_seq ?_
  refine wp_seq ?_
  have HB : w.heap.size ≤ v1140.heap.size := T1141.size
  refine wp_plan_seq [.val (.az N1 u), .val (.is (.int .i64 u.sign)), .val (.is (.bool false))] [] [] w.heap.size (by kernel_rfl) (by kernel_rfl) trivial HB ?_ ?_
  · exact ⟨fun s v h => does_val rfl rfl (x_load_z ((h.same 3 rfl).trans p1154) ((h.far q1153 b1157.lt (by simp)).trans b1157)) (f1144.mono h.mono),
      fun s v h => does_call rfl rfl (x_call1 Try.call28) (r2sign_k (h.dep 0 rfl) (by omega)),
      fun s v h => does_val rfl rfl (x_eql_int (h.dep 1 rfl) rfl) (congrArg Value.bool d0), trivial⟩
  intro g1169 ts v1169 hts E1169
  simp only [fillL, Nat.reduceAdd, List.setIfInBounds_toArray, List.set_cons_zero, List.set_cons_succ] at hts
  subst hts
  have T1170 : Below w.heap.size w v1169 := T1141.trans E1169.below
  have l1171 : q1147 < v1140.heap.size := b1151.lt
  have l1172 : q1153 < v1140.heap.size := b1157.lt
  have l1173 : q1160 < v1140.heap.size := b1164.lt
  have b1174 : Bx v1169 q1147 24 #[.bool na0, .slice A0 n0 c0] := (E1169.far q1147 b1151.lt (by simp)).trans b1151
  have b1175 : Bx v1169 q1153 24 #[.bool na1, .slice A1 n1 c1] := (E1169.far q1153 b1157.lt (by simp)).trans b1157
  have b1176 : Bx v1169 q1160 24 #[.bool false, .slice none 0 0] := (E1169.far q1160 b1164.lt (by simp)).trans b1164
  have f1177 := f1142.mono E1169.mono
  have f1179 := f1144.mono E1169.mono
  have e1184 : g1169 2 = (.bool false) := E1169.facts 2 (by decide)
  refine then_normal ?_
  refine wp_cond_false e1184 ?_
  refine wp_skip ?_
  refine then_normal ?_
  refine wp_seq ?_
  have HB : w.heap.size ≤ v1169.heap.size := T1170.size
  refine wp_plan_seq [.val (.az N0 z), .val (.az N1 u), .val (.tup2 (.cz (fl z u)) (.cz (md z u))), .val (.tup2 (.cz (fl z u)) (.cz (md z u))), .val (.cz (fl z u)), .val (.cz (md z u)), .new 2 none, .new 2 none, .put 6 16, .put 7 17] [] [] w.heap.size (by kernel_rfl) (by kernel_rfl) trivial HB ?_ ?_
  · exact ⟨fun s v h => does_val rfl rfl (x_load_z ((h.same 2 rfl).trans p1148) ((h.far q1147 b1174.lt (by simp)).trans b1174)) (f1177.mono h.mono),
      fun s v h => does_val rfl rfl (x_load_z ((h.same 3 rfl).trans p1154) ((h.far q1153 b1175.lt (by simp)).trans b1175)) (f1179.mono h.mono),
      fun s v h => does_call rfl rfl (x_call2 Try.call29) (r2floor_k (h.dep 0 rfl) (h.dep 1 rfl) (by omega) (by omega) hu),
      fun s v h => does_val rfl rfl (x_move) (h.dep 2 rfl),
      fun s v h => by obtain ⟨r0, r1, e, f0, f1⟩ := tup2_at (h.dep 3 rfl); exact does_val rfl rfl (x_ext e rfl) f0,
      fun s v h => by obtain ⟨r0, r1, e, f0, f1⟩ := tup2_at (h.dep 3 rfl); exact does_val rfl rfl (x_ext e rfl) f1,
      fun s v h => does_new rfl rfl x_alloc_z (okz _ _ _ _) rfl (.inl rfl),
      fun s v h => does_new rfl rfl x_alloc_z (okz _ _ _ _) rfl (.inl rfl),
      fun s v h => by obtain ⟨q, e1, e2, e3⟩ := new_at (h.dep 6 rfl); exact does_put_z rfl rfl e1 (h.dep 4 rfl).shape e3 (Nat.le_trans HB e2),
      fun s v h => by obtain ⟨q, e1, e2, e3⟩ := new_at (h.dep 7 rfl); exact does_put_z rfl rfl e1 (h.dep 5 rfl).shape e3 (Nat.le_trans HB e2), trivial⟩
  intro g1185 ts v1185 hts E1185
  simp only [fillL, Nat.reduceAdd, List.setIfInBounds_toArray, List.set_cons_zero, List.set_cons_succ] at hts
  subst hts
  have T1186 : Below w.heap.size w v1185 := T1170.trans E1185.below
  have l1187 : q1147 < v1169.heap.size := b1174.lt
  have l1188 : q1153 < v1169.heap.size := b1175.lt
  have l1189 : q1160 < v1169.heap.size := b1176.lt
  have b1190 : Bx v1185 q1147 24 #[.bool na0, .slice A0 n0 c0] := (E1185.far q1147 b1174.lt (by simp)).trans b1174
  have b1191 : Bx v1185 q1153 24 #[.bool na1, .slice A1 n1 c1] := (E1185.far q1153 b1175.lt (by simp)).trans b1175
  have b1192 : Bx v1185 q1160 24 #[.bool false, .slice none 0 0] := (E1185.far q1160 b1176.lt (by simp)).trans b1176
  have f1201 : Cz v1185 (g1185 4) (fl z u) := E1185.facts 4 (by decide)
  have f1202 : Cz v1185 (g1185 5) (md z u) := E1185.facts 5 (by decide)
  obtain ⟨q1203, p1204, l1205, o1206⟩ : ∃ q, g1185 6 = .pointer (some ⟨q, 0, none⟩) ∧ v1169.heap.size ≤ q ∧ OkB v1185 q 2 := E1185.facts 6 (by decide)
  have h1207 : w.heap.size ≤ q1203 := Nat.le_trans HB l1205
  have n1210 : q1160 ≠ q1203 := by omega
  obtain ⟨q1211, p1212, l1213, o1214⟩ : ∃ q, g1185 7 = .pointer (some ⟨q, 0, none⟩) ∧ v1169.heap.size ≤ q ∧ OkB v1185 q 2 := E1185.facts 7 (by decide)
  have h1215 : w.heap.size ≤ q1211 := Nat.le_trans HB l1213
  obtain ⟨t1220, x1222, A1223, m1224, c1225, e1226, b1221⟩ := put_info (E1185.facts 8 (by decide)) p1204 f1201.shape
  have f1227 : Cz v1185 (.agg #[.bool x1222, .slice A1223 m1224 c1225]) (fl z u) := f1201.at e1226.symm
  obtain ⟨t1228, x1230, A1231, m1232, c1233, e1234, b1229⟩ := put_info (E1185.facts 9 (by decide)) p1212 f1202.shape
  have f1235 : Cz v1185 (.agg #[.bool x1230, .slice A1231 m1232 c1233]) (md z u) := f1202.at e1234.symm
  refine then_normal ?_
  refine wp_seq ?_
  refine wp_seq ?_
  have HB : w.heap.size ≤ v1185.heap.size := T1186.size
  refine wp_plan_seq [.val (.cz (md z u)), .val (.is (.int .i64 (md z u).sign)), .val (.is (.bool false))] [] [] w.heap.size (by kernel_rfl) (by kernel_rfl) trivial HB ?_ ?_
  · exact ⟨fun s v h => does_val rfl rfl (x_load_z ((h.same 7 rfl).trans p1212) ((h.far q1211 b1229.lt (by simp)).trans b1229)) (f1235.mono h.mono),
      fun s v h => does_call rfl rfl (x_call1 Try.call28) (r2sign_k ((h.dep 0 rfl).az (N := N1) (md_len hu la1)) (by omega)),
      fun s v h => does_val rfl rfl (x_neq_int (h.dep 1 rfl) rfl) (congrArg (fun x => Value.bool (!x)) d1), trivial⟩
  intro g1236 ts v1236 hts E1236
  simp only [fillL, Nat.reduceAdd, List.setIfInBounds_toArray, List.set_cons_zero, List.set_cons_succ] at hts
  subst hts
  have T1237 : Below w.heap.size w v1236 := T1186.trans E1236.below
  have l1238 : q1147 < v1185.heap.size := b1190.lt
  have l1239 : q1153 < v1185.heap.size := b1191.lt
  have l1240 : q1160 < v1185.heap.size := b1192.lt
  have l1241 : q1203 < v1185.heap.size := b1221.lt
  have l1242 : q1211 < v1185.heap.size := b1229.lt
  have b1243 : Bx v1236 q1147 24 #[.bool na0, .slice A0 n0 c0] := (E1236.far q1147 b1190.lt (by simp)).trans b1190
  have b1244 : Bx v1236 q1153 24 #[.bool na1, .slice A1 n1 c1] := (E1236.far q1153 b1191.lt (by simp)).trans b1191
  have b1245 : Bx v1236 q1160 24 #[.bool false, .slice none 0 0] := (E1236.far q1160 b1192.lt (by simp)).trans b1192
  have b1246 : Bx v1236 q1203 t1220 #[.bool x1222, .slice A1223 m1224 c1225] := (E1236.far q1203 b1221.lt (by simp)).trans b1221
  have b1247 : Bx v1236 q1211 t1228 #[.bool x1230, .slice A1231 m1232 c1233] := (E1236.far q1211 b1229.lt (by simp)).trans b1229
  have f1258 := f1227.mono E1236.mono
  have e1262 : g1236 2 = (.bool false) := E1236.facts 2 (by decide)
  refine then_normal ?_
  refine wp_cond_false e1262 ?_
  refine wp_skip ?_
  refine then_normal ?_
  refine wp_seq ?_
  have HB : w.heap.size ≤ v1236.heap.size := T1237.size
  refine wp_plan_seq [.val (.cz (fl z u)), .put 4 22, .val (.is (.int .i64 0))] [4] [q1160] w.heap.size (by kernel_rfl) (by kernel_rfl) ⟨p1161, b1245.lt, (by simp), trivial⟩ HB ?_ ?_
  · exact ⟨fun s v h => does_val rfl rfl (x_load_z ((h.same 6 rfl).trans p1204) ((h.far q1203 b1246.lt (nin1 n1210.symm)).trans b1246)) (f1258.mono h.mono),
      fun s v h => does_put_z rfl rfl ((h.same 4 rfl).trans p1161) (h.dep 0 rfl).shape (h.mono.ok _ _ b1245.ok2) h1166,
      fun s v h => does_val rfl rfl (x_assign) rfl, trivial⟩
  intro g1263 ts v1263 hts E1263
  simp only [fillL, Nat.reduceAdd, List.setIfInBounds_toArray, List.set_cons_zero, List.set_cons_succ] at hts
  subst hts
  have T1264 : Below w.heap.size w v1263 := T1237.trans E1263.below
  have l1265 : q1147 < v1236.heap.size := b1243.lt
  have l1266 : q1153 < v1236.heap.size := b1244.lt
  have l1267 : q1160 < v1236.heap.size := b1245.lt
  have l1268 : q1203 < v1236.heap.size := b1246.lt
  have l1269 : q1211 < v1236.heap.size := b1247.lt
  have f1287 : Cz v1263 (g1263 0) (fl z u) := E1263.facts 0 (by decide)
  have e1288 : g1263 2 = (.int .i64 0) := E1263.facts 2 (by decide)
  obtain ⟨t1289, x1291, A1292, m1293, c1294, e1295, b1290⟩ := put_info (E1263.facts 1 (by decide)) p1161 f1287.shape
  have f1296 : Cz v1263 (.agg #[.bool x1291, .slice A1292 m1293 c1294]) (fl z u) := f1287.at e1295.symm
  refine then_normal ?_
  refine wp_ret ?_
  exact bodyPost_ret (ret_ct rfl p1161 b1290) rfl ⟨_, rfl, ⟨_, _, rfl, f1296, e1288⟩, T1264⟩

set_option maxHeartbeats 4000000 in
set_option maxRecDepth 8000 in
theorem r2exact_b {w : World} {x : Value} {z : Int} {N0 : Nat} (h0 : Az N0 w x z) {y : Value} {u : Int} {N1 : Nat} (h1 : Az N1 w y u) (hN0 : N0 ≤ 17592186043000) (hN1 : N1 ≤ 17592186043000) (hu : u ≠ 0) (d0 : (u.sign == 0) = false) (d1 : ((md z u).sign == 0) = false)  : Calls Try.prog 27 #[x, y] w (Ret (.tup2 (.cz 0) (.is (.int .i64 20))) w) := by
  have la0 := h0.len
  obtain ⟨na0, A0, n0, c0, M0, rfl, hm0, hz0⟩ := h0.parts
  have la1 := h1.len
  obtain ⟨na1, A1, n1, c1, M1, rfl, hm1, hz1⟩ := h1.parts
  have T0 : Below w.heap.size w w := Below.refl _ _
  go_enter Try.func27, Try.ntmps27
  refine wp_seq ?_
  have HB : w.heap.size ≤ w.heap.size := T0.size
  refine wp_plan_seq [.new 2 (some (24, #[.bool na0, .slice A0 n0 c0])), .new 2 (some (24, #[.bool na1, .slice A1 n1 c1])), .new 2 (some (24, #[.bool false, .slice none 0 0])), .val (.is (.int .i64 0))] [] [] w.heap.size (by kernel_rfl) (by kernel_rfl) trivial HB ?_ ?_
  · exact ⟨fun s v h => does_new rfl rfl (x_box_z (h.same 0 rfl)) (okz _ _ _ _) rfl (.inr rfl),
      fun s v h => does_new rfl rfl (x_box_z (h.same 1 rfl)) (okz _ _ _ _) rfl (.inr rfl),
      fun s v h => does_new rfl rfl x_alloc_z (okz _ _ _ _) rfl (.inr rfl),
      fun s v h => does_val rfl rfl (x_assign) rfl, trivial⟩
  intro g1297 ts v1297 hts E1297
  simp only [fillL, Nat.reduceAdd, List.setIfInBounds_toArray, List.set_cons_zero, List.set_cons_succ] at hts
  subst hts
  have T1298 : Below w.heap.size w v1297 := T0.trans E1297.below
  have f1299 := h0.mono E1297.mono
  have f1301 := h1.mono E1297.mono
  obtain ⟨q1304, p1305, l1306, o1307, b1308⟩ : ∃ q, g1297 0 = .pointer (some ⟨q, 0, none⟩) ∧ w.heap.size ≤ q ∧ OkB v1297 q 2 ∧ Bx v1297 q 24 #[.bool na0, .slice A0 n0 c0] := E1297.facts 0 (by decide)
  have h1309 : w.heap.size ≤ q1304 := Nat.le_trans HB l1306
  obtain ⟨q1310, p1311, l1312, o1313, b1314⟩ : ∃ q, g1297 1 = .pointer (some ⟨q, 0, none⟩) ∧ w.heap.size ≤ q ∧ OkB v1297 q 2 ∧ Bx v1297 q 24 #[.bool na1, .slice A1 n1 c1] := E1297.facts 1 (by decide)
  have h1315 : w.heap.size ≤ q1310 := Nat.le_trans HB l1312
  obtain ⟨q1317, p1318, l1319, o1320, b1321⟩ : ∃ q, g1297 2 = .pointer (some ⟨q, 0, none⟩) ∧ w.heap.size ≤ q ∧ OkB v1297 q 2 ∧ Bx v1297 q 24 #[.bool false, .slice none 0 0] := E1297.facts 2 (by decide)
  have h1323 : w.heap.size ≤ q1317 := Nat.le_trans HB l1319
  refine then_normal ?_
  refine wp_seq ?_
  refine wp_seq ?_
  have HB : w.heap.size ≤ v1297.heap.size := T1298.size
  refine wp_plan_seq [.val (.az N1 u), .val (.is (.int .i64 u.sign)), .val (.is (.bool false))] [] [] w.heap.size (by kernel_rfl) (by kernel_rfl) trivial HB ?_ ?_
  · exact ⟨fun s v h => does_val rfl rfl (x_load_z ((h.same 3 rfl).trans p1311) ((h.far q1310 b1314.lt (by simp)).trans b1314)) (f1301.mono h.mono),
      fun s v h => does_call rfl rfl (x_call1 Try.call28) (r2sign_k (h.dep 0 rfl) (by omega)),
      fun s v h => does_val rfl rfl (x_eql_int (h.dep 1 rfl) rfl) (congrArg Value.bool d0), trivial⟩
  intro g1326 ts v1326 hts E1326
  simp only [fillL, Nat.reduceAdd, List.setIfInBounds_toArray, List.set_cons_zero, List.set_cons_succ] at hts
  subst hts
  have T1327 : Below w.heap.size w v1326 := T1298.trans E1326.below
  have l1328 : q1304 < v1297.heap.size := b1308.lt
  have l1329 : q1310 < v1297.heap.size := b1314.lt
  have l1330 : q1317 < v1297.heap.size := b1321.lt
  have b1331 : Bx v1326 q1304 24 #[.bool na0, .slice A0 n0 c0] := (E1326.far q1304 b1308.lt (by simp)).trans b1308
  have b1332 : Bx v1326 q1310 24 #[.bool na1, .slice A1 n1 c1] := (E1326.far q1310 b1314.lt (by simp)).trans b1314
  have b1333 : Bx v1326 q1317 24 #[.bool false, .slice none 0 0] := (E1326.far q1317 b1321.lt (by simp)).trans b1321
  have f1334 := f1299.mono E1326.mono
  have f1336 := f1301.mono E1326.mono
  have e1341 : g1326 2 = (.bool false) := E1326.facts 2 (by decide)
  refine then_normal ?_
  refine wp_cond_false e1341 ?_
  refine wp_skip ?_
  refine then_normal ?_
  refine wp_seq ?_
  have HB : w.heap.size ≤ v1326.heap.size := T1327.size
  refine wp_plan_seq [.val (.az N0 z), .val (.az N1 u), .val (.tup2 (.cz (fl z u)) (.cz (md z u))), .val (.tup2 (.cz (fl z u)) (.cz (md z u))), .val (.cz (fl z u)), .val (.cz (md z u)), .new 2 none, .new 2 none, .put 6 16, .put 7 17] [] [] w.heap.size (by kernel_rfl) (by kernel_rfl) trivial HB ?_ ?_
  · exact ⟨fun s v h => does_val rfl rfl (x_load_z ((h.same 2 rfl).trans p1305) ((h.far q1304 b1331.lt (by simp)).trans b1331)) (f1334.mono h.mono),
      fun s v h => does_val rfl rfl (x_load_z ((h.same 3 rfl).trans p1311) ((h.far q1310 b1332.lt (by simp)).trans b1332)) (f1336.mono h.mono),
      fun s v h => does_call rfl rfl (x_call2 Try.call29) (r2floor_k (h.dep 0 rfl) (h.dep 1 rfl) (by omega) (by omega) hu),
      fun s v h => does_val rfl rfl (x_move) (h.dep 2 rfl),
      fun s v h => by obtain ⟨r0, r1, e, f0, f1⟩ := tup2_at (h.dep 3 rfl); exact does_val rfl rfl (x_ext e rfl) f0,
      fun s v h => by obtain ⟨r0, r1, e, f0, f1⟩ := tup2_at (h.dep 3 rfl); exact does_val rfl rfl (x_ext e rfl) f1,
      fun s v h => does_new rfl rfl x_alloc_z (okz _ _ _ _) rfl (.inl rfl),
      fun s v h => does_new rfl rfl x_alloc_z (okz _ _ _ _) rfl (.inl rfl),
      fun s v h => by obtain ⟨q, e1, e2, e3⟩ := new_at (h.dep 6 rfl); exact does_put_z rfl rfl e1 (h.dep 4 rfl).shape e3 (Nat.le_trans HB e2),
      fun s v h => by obtain ⟨q, e1, e2, e3⟩ := new_at (h.dep 7 rfl); exact does_put_z rfl rfl e1 (h.dep 5 rfl).shape e3 (Nat.le_trans HB e2), trivial⟩
  intro g1342 ts v1342 hts E1342
  simp only [fillL, Nat.reduceAdd, List.setIfInBounds_toArray, List.set_cons_zero, List.set_cons_succ] at hts
  subst hts
  have T1343 : Below w.heap.size w v1342 := T1327.trans E1342.below
  have l1344 : q1304 < v1326.heap.size := b1331.lt
  have l1345 : q1310 < v1326.heap.size := b1332.lt
  have l1346 : q1317 < v1326.heap.size := b1333.lt
  have b1347 : Bx v1342 q1304 24 #[.bool na0, .slice A0 n0 c0] := (E1342.far q1304 b1331.lt (by simp)).trans b1331
  have b1348 : Bx v1342 q1310 24 #[.bool na1, .slice A1 n1 c1] := (E1342.far q1310 b1332.lt (by simp)).trans b1332
  have b1349 : Bx v1342 q1317 24 #[.bool false, .slice none 0 0] := (E1342.far q1317 b1333.lt (by simp)).trans b1333
  have f1358 : Cz v1342 (g1342 4) (fl z u) := E1342.facts 4 (by decide)
  have f1359 : Cz v1342 (g1342 5) (md z u) := E1342.facts 5 (by decide)
  obtain ⟨q1360, p1361, l1362, o1363⟩ : ∃ q, g1342 6 = .pointer (some ⟨q, 0, none⟩) ∧ v1326.heap.size ≤ q ∧ OkB v1342 q 2 := E1342.facts 6 (by decide)
  have h1364 : w.heap.size ≤ q1360 := Nat.le_trans HB l1362
  obtain ⟨q1368, p1369, l1370, o1371⟩ : ∃ q, g1342 7 = .pointer (some ⟨q, 0, none⟩) ∧ v1326.heap.size ≤ q ∧ OkB v1342 q 2 := E1342.facts 7 (by decide)
  have h1372 : w.heap.size ≤ q1368 := Nat.le_trans HB l1370
  obtain ⟨t1377, x1379, A1380, m1381, c1382, e1383, b1378⟩ := put_info (E1342.facts 8 (by decide)) p1361 f1358.shape
  obtain ⟨t1385, x1387, A1388, m1389, c1390, e1391, b1386⟩ := put_info (E1342.facts 9 (by decide)) p1369 f1359.shape
  have f1392 : Cz v1342 (.agg #[.bool x1387, .slice A1388 m1389 c1390]) (md z u) := f1359.at e1391.symm
  refine then_normal ?_
  refine wp_seq ?_
  refine wp_seq ?_
  have HB : w.heap.size ≤ v1342.heap.size := T1343.size
  refine wp_plan_seq [.val (.cz (md z u)), .val (.is (.int .i64 (md z u).sign)), .val (.is (.bool true))] [] [] w.heap.size (by kernel_rfl) (by kernel_rfl) trivial HB ?_ ?_
  · exact ⟨fun s v h => does_val rfl rfl (x_load_z ((h.same 7 rfl).trans p1369) ((h.far q1368 b1386.lt (by simp)).trans b1386)) (f1392.mono h.mono),
      fun s v h => does_call rfl rfl (x_call1 Try.call28) (r2sign_k ((h.dep 0 rfl).az (N := N1) (md_len hu la1)) (by omega)),
      fun s v h => does_val rfl rfl (x_neq_int (h.dep 1 rfl) rfl) (congrArg (fun x => Value.bool (!x)) d1), trivial⟩
  intro g1393 ts v1393 hts E1393
  simp only [fillL, Nat.reduceAdd, List.setIfInBounds_toArray, List.set_cons_zero, List.set_cons_succ] at hts
  subst hts
  have T1394 : Below w.heap.size w v1393 := T1343.trans E1393.below
  have l1395 : q1304 < v1342.heap.size := b1347.lt
  have l1396 : q1310 < v1342.heap.size := b1348.lt
  have l1397 : q1317 < v1342.heap.size := b1349.lt
  have l1398 : q1360 < v1342.heap.size := b1378.lt
  have l1399 : q1368 < v1342.heap.size := b1386.lt
  have b1400 : Bx v1393 q1304 24 #[.bool na0, .slice A0 n0 c0] := (E1393.far q1304 b1347.lt (by simp)).trans b1347
  have b1401 : Bx v1393 q1310 24 #[.bool na1, .slice A1 n1 c1] := (E1393.far q1310 b1348.lt (by simp)).trans b1348
  have b1402 : Bx v1393 q1317 24 #[.bool false, .slice none 0 0] := (E1393.far q1317 b1349.lt (by simp)).trans b1349
  have b1403 : Bx v1393 q1360 t1377 #[.bool x1379, .slice A1380 m1381 c1382] := (E1393.far q1360 b1378.lt (by simp)).trans b1378
  have b1404 : Bx v1393 q1368 t1385 #[.bool x1387, .slice A1388 m1389 c1390] := (E1393.far q1368 b1386.lt (by simp)).trans b1386
  have e1419 : g1393 2 = (.bool true) := E1393.facts 2 (by decide)
  refine then_normal ?_
  refine wp_cond_true e1419 ?_
  refine wp_seq ?_
  have HB : w.heap.size ≤ v1393.heap.size := T1394.size
  refine wp_plan_seq [.val (.is (.agg #[.bool false, .slice none 0 0])), .put 4 21, .val (.is (.int .i64 20))] [4] [q1317] w.heap.size (by kernel_rfl) (by kernel_rfl) ⟨p1318, b1402.lt, (by simp), trivial⟩ HB ?_ ?_
  · exact ⟨fun s v h => does_val rfl rfl x_build0 rfl,
      fun s v h => does_put_z rfl rfl ((h.same 4 rfl).trans p1318) ⟨_, _, _, _, (h.dep 0 rfl)⟩ (h.mono.ok _ _ b1402.ok2) h1323,
      fun s v h => does_val rfl rfl (x_assign) rfl, trivial⟩
  intro g1420 ts v1420 hts E1420
  simp only [fillL, Nat.reduceAdd, List.setIfInBounds_toArray, List.set_cons_zero, List.set_cons_succ] at hts
  subst hts
  have T1421 : Below w.heap.size w v1420 := T1394.trans E1420.below
  have l1422 : q1304 < v1393.heap.size := b1400.lt
  have l1423 : q1310 < v1393.heap.size := b1401.lt
  have l1424 : q1317 < v1393.heap.size := b1402.lt
  have l1425 : q1360 < v1393.heap.size := b1403.lt
  have l1426 : q1368 < v1393.heap.size := b1404.lt
  have e1444 : g1420 0 = (.agg #[.bool false, .slice none 0 0]) := E1420.facts 0 (by decide)
  have e1445 : g1420 2 = (.int .i64 20) := E1420.facts 2 (by decide)
  obtain ⟨t1446, b1447⟩ := put_lit (E1420.facts 1 (by decide)) p1318 e1444
  have f1448 : Cz v1420 (.agg #[.bool false, .slice none 0 0]) 0 := cz_zero _
  refine then_normal ?_
  refine wp_ret ?_
  exact bodyPost_ret (ret_ct rfl p1318 b1447) rfl ⟨_, rfl, ⟨_, _, rfl, f1448, e1445⟩, T1421⟩

set_option maxHeartbeats 4000000 in
set_option maxRecDepth 8000 in
theorem r2exact_z {w : World} {x : Value} {z : Int} {N0 : Nat} (h0 : Az N0 w x z) {y : Value} {u : Int} {N1 : Nat} (h1 : Az N1 w y u) (hN1 : N1 ≤ 17592186043000) (d0 : (u.sign == 0) = true)  : Calls Try.prog 27 #[x, y] w (Ret (.tup2 (.cz 0) (.is (.int .i64 11))) w) := by
  have la0 := h0.len
  obtain ⟨na0, A0, n0, c0, M0, rfl, hm0, hz0⟩ := h0.parts
  have la1 := h1.len
  obtain ⟨na1, A1, n1, c1, M1, rfl, hm1, hz1⟩ := h1.parts
  have T0 : Below w.heap.size w w := Below.refl _ _
  go_enter Try.func27, Try.ntmps27
  refine wp_seq ?_
  have HB : w.heap.size ≤ w.heap.size := T0.size
  refine wp_plan_seq [.new 2 (some (24, #[.bool na0, .slice A0 n0 c0])), .new 2 (some (24, #[.bool na1, .slice A1 n1 c1])), .new 2 (some (24, #[.bool false, .slice none 0 0])), .val (.is (.int .i64 0))] [] [] w.heap.size (by kernel_rfl) (by kernel_rfl) trivial HB ?_ ?_
  · exact ⟨fun s v h => does_new rfl rfl (x_box_z (h.same 0 rfl)) (okz _ _ _ _) rfl (.inr rfl),
      fun s v h => does_new rfl rfl (x_box_z (h.same 1 rfl)) (okz _ _ _ _) rfl (.inr rfl),
      fun s v h => does_new rfl rfl x_alloc_z (okz _ _ _ _) rfl (.inr rfl),
      fun s v h => does_val rfl rfl (x_assign) rfl, trivial⟩
  intro g1449 ts v1449 hts E1449
  simp only [fillL, Nat.reduceAdd, List.setIfInBounds_toArray, List.set_cons_zero, List.set_cons_succ] at hts
  subst hts
  have T1450 : Below w.heap.size w v1449 := T0.trans E1449.below
  have f1453 := h1.mono E1449.mono
  obtain ⟨q1456, p1457, l1458, o1459, b1460⟩ : ∃ q, g1449 0 = .pointer (some ⟨q, 0, none⟩) ∧ w.heap.size ≤ q ∧ OkB v1449 q 2 ∧ Bx v1449 q 24 #[.bool na0, .slice A0 n0 c0] := E1449.facts 0 (by decide)
  have h1461 : w.heap.size ≤ q1456 := Nat.le_trans HB l1458
  obtain ⟨q1462, p1463, l1464, o1465, b1466⟩ : ∃ q, g1449 1 = .pointer (some ⟨q, 0, none⟩) ∧ w.heap.size ≤ q ∧ OkB v1449 q 2 ∧ Bx v1449 q 24 #[.bool na1, .slice A1 n1 c1] := E1449.facts 1 (by decide)
  have h1467 : w.heap.size ≤ q1462 := Nat.le_trans HB l1464
  obtain ⟨q1469, p1470, l1471, o1472, b1473⟩ : ∃ q, g1449 2 = .pointer (some ⟨q, 0, none⟩) ∧ w.heap.size ≤ q ∧ OkB v1449 q 2 ∧ Bx v1449 q 24 #[.bool false, .slice none 0 0] := E1449.facts 2 (by decide)
  have h1475 : w.heap.size ≤ q1469 := Nat.le_trans HB l1471
  refine then_normal ?_
  refine wp_seq ?_
  refine wp_seq ?_
  have HB : w.heap.size ≤ v1449.heap.size := T1450.size
  refine wp_plan_seq [.val (.az N1 u), .val (.is (.int .i64 u.sign)), .val (.is (.bool true))] [] [] w.heap.size (by kernel_rfl) (by kernel_rfl) trivial HB ?_ ?_
  · exact ⟨fun s v h => does_val rfl rfl (x_load_z ((h.same 3 rfl).trans p1463) ((h.far q1462 b1466.lt (by simp)).trans b1466)) (f1453.mono h.mono),
      fun s v h => does_call rfl rfl (x_call1 Try.call28) (r2sign_k (h.dep 0 rfl) (by omega)),
      fun s v h => does_val rfl rfl (x_eql_int (h.dep 1 rfl) rfl) (congrArg Value.bool d0), trivial⟩
  intro g1478 ts v1478 hts E1478
  simp only [fillL, Nat.reduceAdd, List.setIfInBounds_toArray, List.set_cons_zero, List.set_cons_succ] at hts
  subst hts
  have T1479 : Below w.heap.size w v1478 := T1450.trans E1478.below
  have l1480 : q1456 < v1449.heap.size := b1460.lt
  have l1481 : q1462 < v1449.heap.size := b1466.lt
  have l1482 : q1469 < v1449.heap.size := b1473.lt
  have b1483 : Bx v1478 q1456 24 #[.bool na0, .slice A0 n0 c0] := (E1478.far q1456 b1460.lt (by simp)).trans b1460
  have b1484 : Bx v1478 q1462 24 #[.bool na1, .slice A1 n1 c1] := (E1478.far q1462 b1466.lt (by simp)).trans b1466
  have b1485 : Bx v1478 q1469 24 #[.bool false, .slice none 0 0] := (E1478.far q1469 b1473.lt (by simp)).trans b1473
  have e1493 : g1478 2 = (.bool true) := E1478.facts 2 (by decide)
  refine then_normal ?_
  refine wp_cond_true e1493 ?_
  refine wp_seq ?_
  have HB : w.heap.size ≤ v1478.heap.size := T1479.size
  refine wp_plan_seq [.val (.is (.agg #[.bool false, .slice none 0 0])), .put 4 11, .val (.is (.int .i64 11))] [4] [q1469] w.heap.size (by kernel_rfl) (by kernel_rfl) ⟨p1470, b1485.lt, (by simp), trivial⟩ HB ?_ ?_
  · exact ⟨fun s v h => does_val rfl rfl x_build0 rfl,
      fun s v h => does_put_z rfl rfl ((h.same 4 rfl).trans p1470) ⟨_, _, _, _, (h.dep 0 rfl)⟩ (h.mono.ok _ _ b1485.ok2) h1475,
      fun s v h => does_val rfl rfl (x_assign) rfl, trivial⟩
  intro g1494 ts v1494 hts E1494
  simp only [fillL, Nat.reduceAdd, List.setIfInBounds_toArray, List.set_cons_zero, List.set_cons_succ] at hts
  subst hts
  have T1495 : Below w.heap.size w v1494 := T1479.trans E1494.below
  have l1496 : q1456 < v1478.heap.size := b1483.lt
  have l1497 : q1462 < v1478.heap.size := b1484.lt
  have l1498 : q1469 < v1478.heap.size := b1485.lt
  have e1507 : g1494 0 = (.agg #[.bool false, .slice none 0 0]) := E1494.facts 0 (by decide)
  have e1508 : g1494 2 = (.int .i64 11) := E1494.facts 2 (by decide)
  obtain ⟨t1509, b1510⟩ := put_lit (E1494.facts 1 (by decide)) p1470 e1507
  have f1511 : Cz v1494 (.agg #[.bool false, .slice none 0 0]) 0 := cz_zero _
  refine then_normal ?_
  refine wp_ret ?_
  exact bodyPost_ret (ret_ct rfl p1470 b1510) rfl ⟨_, rfl, ⟨_, _, rfl, f1511, e1508⟩, T1495⟩

end Go.Proofs.Ytkidgeeedigkhaa
