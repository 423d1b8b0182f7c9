
/- Near, Exact, Root, Two, Compare. -/
import Derived.Test.YtdmahjbjlppeaaaY2
namespace Go.Proofs.Ytdmahjbjlppeaaa
open Go.RowKit

theorem ndiv0_k {w : World} {x y : Value} {a b N M : Nat} (h : Nz N w x a) (h' : Nz M w y b) (hb : b = 0) : Calls Try.prog 75 #[x, y] w (Ret (.tup3 (.is (.slice none 0 0)) (.is (.slice none 0 0)) (.is (.int .i64 11))) w) := by
  subst hb
  obtain ⟨A, n, c, l, rfl, hS, rfl, hn⟩ := h
  obtain ⟨A', n', c', l', rfl, hS', hz, hn'⟩ := h'
  refine (div_zero w A n c l A' n' c' l' hS hS' hz).mono fun _ _ h => ?_
  obtain ⟨rfl, rfl⟩ := h
  exact ⟨_, rfl, ⟨_, _, _, rfl, rfl, rfl, rfl⟩, Below.refl _ _⟩

set_option maxHeartbeats 4000000 in
set_option maxRecDepth 8000 in
theorem zfloor0_k {w : World} {x : Value} {z : Int} {N0 : Nat} (h0 : Az N0 w x z) {y : Value} {u : Int} {N1 : Nat} (h1 : Az N1 w y u) (hu : u = 0)  : Calls Try.prog 42 #[x, y] w (Ret (.tup3 (.cz 0) (.cz 0) (.is (.int .i64 11))) w) := by
  have la0 := h0.len
  obtain ⟨na0, A0, n0, c0, M0, rfl, hm0, hz0⟩ := h0.parts
  have la1 := h1.len
  obtain ⟨na1, A1, n1, c1, M1, rfl, hm1, hz1⟩ := h1.parts
  have hM0 : M1 = 0 := by have := congrArg Int.natAbs hz1; rw [zof_abs, hu] at this; exact this
  have T0 : Below w.heap.size w w := Below.refl _ _
  go_enter Try.func42, Try.ntmps42
  refine wp_seq ?_
  have HB : w.heap.size ≤ w.heap.size := T0.size
  refine wp_plan_seq [.new 2 (some (24, #[.bool na0, .slice A0 n0 c0])), .new 2 (some (24, #[.bool na1, .slice A1 n1 c1])), .new 2 (some (24, #[.bool false, .slice none 0 0])), .new 2 (some (24, #[.bool false, .slice none 0 0])), .val (.is (.int .i64 0))] [] [] w.heap.size (by kernel_rfl) (by kernel_rfl) trivial HB ?_ ?_
  · exact ⟨fun s v h => does_new rfl rfl (x_box_z (h.same 0 rfl)) (okz _ _ _ _) rfl (.inr rfl),
      fun s v h => does_new rfl rfl (x_box_z (h.same 1 rfl)) (okz _ _ _ _) rfl (.inr rfl),
      fun s v h => does_new rfl rfl x_alloc_z (okz _ _ _ _) rfl (.inr rfl),
      fun s v h => does_new rfl rfl x_alloc_z (okz _ _ _ _) rfl (.inr rfl),
      fun s v h => does_val rfl rfl (x_assign) rfl, trivial⟩
  intro g1 ts v1 hts E1
  simp only [fillL, Nat.reduceAdd, List.setIfInBounds_toArray, List.set_cons_zero, List.set_cons_succ] at hts
  subst hts
  have T2 : Below w.heap.size w v1 := T0.trans E1.below
  have f4 := hm0.mono E1.mono
  have f6 := hm1.mono E1.mono
  obtain ⟨q8, p9, l10, o11, b12⟩ : ∃ q, g1 0 = .pointer (some ⟨q, 0, none⟩) ∧ w.heap.size ≤ q ∧ OkB v1 q 2 ∧ Bx v1 q 24 #[.bool na0, .slice A0 n0 c0] := E1.facts 0 (by decide)
  have h13 : w.heap.size ≤ q8 := Nat.le_trans HB l10
  obtain ⟨q14, p15, l16, o17, b18⟩ : ∃ q, g1 1 = .pointer (some ⟨q, 0, none⟩) ∧ w.heap.size ≤ q ∧ OkB v1 q 2 ∧ Bx v1 q 24 #[.bool na1, .slice A1 n1 c1] := E1.facts 1 (by decide)
  have h19 : w.heap.size ≤ q14 := Nat.le_trans HB l16
  obtain ⟨q21, p22, l23, o24, b25⟩ : ∃ q, g1 2 = .pointer (some ⟨q, 0, none⟩) ∧ w.heap.size ≤ q ∧ OkB v1 q 2 ∧ Bx v1 q 24 #[.bool false, .slice none 0 0] := E1.facts 2 (by decide)
  have h27 : w.heap.size ≤ q21 := Nat.le_trans HB l23
  obtain ⟨q30, p31, l32, o33, b34⟩ : ∃ q, g1 3 = .pointer (some ⟨q, 0, none⟩) ∧ w.heap.size ≤ q ∧ OkB v1 q 2 ∧ Bx v1 q 24 #[.bool false, .slice none 0 0] := E1.facts 3 (by decide)
  have h36 : w.heap.size ≤ q30 := Nat.le_trans HB l32
  have n39 : q21 ≠ q30 := E1.apart 2 3 (by decide) (by decide) (by decide) ⟨_, _, _, rfl⟩ ⟨_, _, _, rfl⟩ none _ none _ p22 p31
  refine then_normal ?_
  refine wp_seq ?_
  have HB : w.heap.size ≤ v1.heap.size := T2.size
  refine wp_plan_seq [.val (.is (.pointer (some ⟨q8, 1, none⟩))), .val (.nz N0 M0), .val (.is (.pointer (some ⟨q14, 1, none⟩))), .val (.nz N1 M1), .val (.tup3 (.is (.slice none 0 0)) (.is (.slice none 0 0)) (.is (.int .i64 11))), .val (.tup3 (.is (.slice none 0 0)) (.is (.slice none 0 0)) (.is (.int .i64 11))), .val (.is (.slice none 0 0)), .val (.is (.slice none 0 0)), .val (.is (.int .i64 11)), .val (.is (.slice none 0 0)), .val (.is (.slice none 0 0)), .val (.is (.int .i64 11))] [] [] w.heap.size (by kernel_rfl) (by kernel_rfl) trivial HB ?_ ?_
  · exact ⟨fun s v h => does_val rfl rfl (x_fld (by decide) ((h.same 2 rfl).trans p9)) rfl,
      fun s v h => does_val rfl rfl (x_load_s (h.dep 0 rfl) ((h.far q8 b12.lt (by simp)).trans b12)) (f4.mono h.mono),
      fun s v h => does_val rfl rfl (x_fld (by decide) ((h.same 3 rfl).trans p15)) rfl,
      fun s v h => does_val rfl rfl (x_load_s (h.dep 2 rfl) ((h.far q14 b18.lt (by simp)).trans b18)) (f6.mono h.mono),
      fun s v h => does_call rfl rfl (x_call2 Try.call75) (ndiv0_k (h.dep 1 rfl) (h.dep 3 rfl) hM0),
      fun s v h => does_val rfl rfl (x_move) (h.dep 4 rfl),
      fun s v h => by obtain ⟨r0, r1, r2, e, f0, f1, f2⟩ := tup3_at (h.dep 5 rfl); exact does_val rfl rfl (x_ext e rfl) f0,
      fun s v h => by obtain ⟨r0, r1, r2, e, f0, f1, f2⟩ := tup3_at (h.dep 5 rfl); exact does_val rfl rfl (x_ext e rfl) f1,
      fun s v h => by obtain ⟨r0, r1, r2, e, f0, f1, f2⟩ := tup3_at (h.dep 5 rfl); exact does_val rfl rfl (x_ext e rfl) f2,
      fun s v h => does_val rfl rfl (x_assign) (h.dep 6 rfl),
      fun s v h => does_val rfl rfl (x_assign) (h.dep 7 rfl),
      fun s v h => does_val rfl rfl (x_assign) (h.dep 8 rfl), trivial⟩
  intro g40 ts v40 hts E40
  simp only [fillL, Nat.reduceAdd, List.setIfInBounds_toArray, List.set_cons_zero, List.set_cons_succ] at hts
  subst hts
  have T41 : Below w.heap.size w v40 := T2.trans E40.below
  have l42 : q8 < v1.heap.size := b12.lt
  have l43 : q14 < v1.heap.size := b18.lt
  have l44 : q21 < v1.heap.size := b25.lt
  have l45 : q30 < v1.heap.size := b34.lt
  have b46 : Bx v40 q8 24 #[.bool na0, .slice A0 n0 c0] := (E40.far q8 b12.lt (by simp)).trans b12
  have b47 : Bx v40 q14 24 #[.bool na1, .slice A1 n1 c1] := (E40.far q14 b18.lt (by simp)).trans b18
  have b48 : Bx v40 q21 24 #[.bool false, .slice none 0 0] := (E40.far q21 b25.lt (by simp)).trans b25
  have b49 : Bx v40 q30 24 #[.bool false, .slice none 0 0] := (E40.far q30 b34.lt (by simp)).trans b34
  have e63 : g40 11 = (.int .i64 11) := E40.facts 11 (by decide)
  refine then_normal ?_
  refine wp_seq ?_
  refine wp_seq ?_
  have HB : w.heap.size ≤ v40.heap.size := T41.size
  refine wp_plan_seq [.val (.is (.int .i64 11)), .val (.is (.bool true))] [] [] w.heap.size (by kernel_rfl) (by kernel_rfl) trivial HB ?_ ?_
  · exact ⟨fun s v h => does_val rfl rfl (x_move) ((h.same 9 rfl).trans e63),
      fun s v h => does_val rfl rfl (x_neq_err (h.dep 0 rfl) rfl) rfl, trivial⟩
  intro g64 ts v64 hts E64
  simp only [fillL, Nat.reduceAdd, List.setIfInBounds_toArray, List.set_cons_zero, List.set_cons_succ] at hts
  subst hts
  have T65 : Below w.heap.size w v64 := T41.trans E64.below
  have l66 : q8 < v40.heap.size := b46.lt
  have l67 : q14 < v40.heap.size := b47.lt
  have l68 : q21 < v40.heap.size := b48.lt
  have l69 : q30 < v40.heap.size := b49.lt
  have b70 : Bx v64 q8 24 #[.bool na0, .slice A0 n0 c0] := (E64.far q8 b46.lt (by simp)).trans b46
  have b71 : Bx v64 q14 24 #[.bool na1, .slice A1 n1 c1] := (E64.far q14 b47.lt (by simp)).trans b47
  have b72 : Bx v64 q21 24 #[.bool false, .slice none 0 0] := (E64.far q21 b48.lt (by simp)).trans b48
  have b73 : Bx v64 q30 24 #[.bool false, .slice none 0 0] := (E64.far q30 b49.lt (by simp)).trans b49
  have e83 : g64 1 = (.bool true) := E64.facts 1 (by decide)
  refine then_normal ?_
  refine wp_cond_true e83 ?_
  refine wp_seq ?_
  have HB : w.heap.size ≤ v64.heap.size := T65.size
  refine wp_plan_seq [.val (.is (.agg #[.bool false, .slice none 0 0])), .val (.is (.agg #[.bool false, .slice none 0 0])), .put 4 23, .put 5 24, .val (.is (.int .i64 11))] [4, 5] [q21, q30] w.heap.size (by kernel_rfl) (by kernel_rfl) ⟨p22, b72.lt, (nin1 n39), ⟨p31, b73.lt, (by simp), trivial⟩⟩ HB ?_ ?_
  · exact ⟨fun s v h => does_val rfl rfl x_build0 rfl,
      fun s v h => does_val rfl rfl x_build0 rfl,
      fun s v h => does_put_z rfl rfl ((h.same 4 rfl).trans p22) ⟨_, _, _, _, (h.dep 0 rfl)⟩ (h.mono.ok _ _ b72.ok2) h27,
      fun s v h => does_put_z rfl rfl ((h.same 5 rfl).trans p31) ⟨_, _, _, _, (h.dep 1 rfl)⟩ (h.mono.ok _ _ b73.ok2) h36,
      fun s v h => does_val rfl rfl (x_assign) rfl, trivial⟩
  intro g84 ts v84 hts E84
  simp only [fillL, Nat.reduceAdd, List.setIfInBounds_toArray, List.set_cons_zero, List.set_cons_succ] at hts
  subst hts
  have T85 : Below w.heap.size w v84 := T65.trans E84.below
  have l86 : q8 < v64.heap.size := b70.lt
  have l87 : q14 < v64.heap.size := b71.lt
  have l88 : q21 < v64.heap.size := b72.lt
  have l89 : q30 < v64.heap.size := b73.lt
  have e100 : g84 0 = (.agg #[.bool false, .slice none 0 0]) := E84.facts 0 (by decide)
  have e101 : g84 1 = (.agg #[.bool false, .slice none 0 0]) := E84.facts 1 (by decide)
  have e102 : g84 4 = (.int .i64 11) := E84.facts 4 (by decide)
  obtain ⟨t103, b104⟩ := put_lit (E84.facts 2 (by decide)) p22 e100
  have f105 : Cz v84 (.agg #[.bool false, .slice none 0 0]) 0 := cz_zero _
  obtain ⟨t106, b107⟩ := put_lit (E84.facts 3 (by decide)) p31 e101
  have f108 : Cz v84 (.agg #[.bool false, .slice none 0 0]) 0 := cz_zero _
  refine then_normal ?_
  refine wp_ret ?_
  exact bodyPost_ret (ret_cct rfl p22 b104 p31 b107) rfl ⟨_, rfl, ⟨_, _, _, rfl, f105, f108, e102⟩, T85⟩

set_option maxHeartbeats 4000000 in
set_option maxRecDepth 8000 in
theorem znear_k {w : World} {x : Value} {z : Int} {N0 : Nat} (h0 : Az N0 w x z) {y : Value} {u : Int} {N1 : Nat} (h1 : Az N1 w y u) (hN0 : N0 ≤ 35184372088800) (hN1 : N1 ≤ 35184372088800) (hu : u + u ≠ 0)  : Calls Try.prog 66 #[x, y] w (Ret (.tup2 (.cz (fl (z + z + u) (u + u))) (.is (.int .i64 0))) w) := by
  have la0 := h0.len
  obtain ⟨na0, A0, n0, c0, M0, rfl, hm0, hz0⟩ := h0.parts
  have la1 := h1.len
  obtain ⟨na1, A1, n1, c1, M1, rfl, hm1, hz1⟩ := h1.parts
  have T0 : Below w.heap.size w w := Below.refl _ _
  go_enter Try.func66, Try.ntmps66
  refine wp_seq ?_
  have HB : w.heap.size ≤ w.heap.size := T0.size
  refine wp_plan_seq [.new 2 (some (24, #[.bool na0, .slice A0 n0 c0])), .new 2 (some (24, #[.bool na1, .slice A1 n1 c1])), .new 2 (some (24, #[.bool false, .slice none 0 0])), .val (.is (.int .i64 0))] [] [] w.heap.size (by kernel_rfl) (by kernel_rfl) trivial HB ?_ ?_
  · exact ⟨fun s v h => does_new rfl rfl (x_box_z (h.same 0 rfl)) (okz _ _ _ _) rfl (.inr rfl),
      fun s v h => does_new rfl rfl (x_box_z (h.same 1 rfl)) (okz _ _ _ _) rfl (.inr rfl),
      fun s v h => does_new rfl rfl x_alloc_z (okz _ _ _ _) rfl (.inr rfl),
      fun s v h => does_val rfl rfl (x_assign) rfl, trivial⟩
  intro g109 ts v109 hts E109
  simp only [fillL, Nat.reduceAdd, List.setIfInBounds_toArray, List.set_cons_zero, List.set_cons_succ] at hts
  subst hts
  have T110 : Below w.heap.size w v109 := T0.trans E109.below
  have f111 := h0.mono E109.mono
  have f113 := h1.mono E109.mono
  obtain ⟨q116, p117, l118, o119, b120⟩ : ∃ q, g109 0 = .pointer (some ⟨q, 0, none⟩) ∧ w.heap.size ≤ q ∧ OkB v109 q 2 ∧ Bx v109 q 24 #[.bool na0, .slice A0 n0 c0] := E109.facts 0 (by decide)
  have h121 : w.heap.size ≤ q116 := Nat.le_trans HB l118
  obtain ⟨q122, p123, l124, o125, b126⟩ : ∃ q, g109 1 = .pointer (some ⟨q, 0, none⟩) ∧ w.heap.size ≤ q ∧ OkB v109 q 2 ∧ Bx v109 q 24 #[.bool na1, .slice A1 n1 c1] := E109.facts 1 (by decide)
  have h127 : w.heap.size ≤ q122 := Nat.le_trans HB l124
  obtain ⟨q129, p130, l131, o132, b133⟩ : ∃ q, g109 2 = .pointer (some ⟨q, 0, none⟩) ∧ w.heap.size ≤ q ∧ OkB v109 q 2 ∧ Bx v109 q 24 #[.bool false, .slice none 0 0] := E109.facts 2 (by decide)
  have h135 : w.heap.size ≤ q129 := Nat.le_trans HB l131
  refine then_normal ?_
  refine wp_seq ?_
  have HB : w.heap.size ≤ v109.heap.size := T110.size
  refine wp_plan_any [.val (.az N0 z), .val (.az N0 z), .val (.cz (z + z)), .val (.az N1 u), .val (.cz ((z + z) + u)), .val (.az N1 u), .val (.az N1 u), .val (.cz (u + u)), .val (.tup3 (.cz (fl ((z + z) + u) (u + u))) (.cz (md ((z + z) + u) (u + u))) (.is (.int .i64 0))), .val (.tup3 (.cz (fl ((z + z) + u) (u + u))) (.cz (md ((z + z) + u) (u + u))) (.is (.int .i64 0))), .val (.cz (fl ((z + z) + u) (u + u))), .val (.cz (md ((z + z) + u) (u + u))), .val (.is (.int .i64 0)), .new 2 none, .new 2 none, .put 6 19, .put 7 20, .val (.is (.int .i64 0))] [] [] w.heap.size (by kernel_rfl) (by kernel_rfl) (by kernel_rfl) trivial HB ?_ ?_
  · exact ⟨fun s v h => does_val rfl rfl (x_load_z ((h.same 2 rfl).trans p117) ((h.far q116 b120.lt (by simp)).trans b120)) (f111.mono ((Mono.drew _).trans h.mono)),
      fun s v h => does_val rfl rfl (x_load_z ((h.same 2 rfl).trans p117) ((h.far q116 b120.lt (by simp)).trans b120)) (f111.mono ((Mono.drew _).trans h.mono)),
      fun s v h => does_call rfl rfl (x_call2 Try.call58) (add_k (h.dep 0 rfl) (h.dep 1 rfl) (by omega) (by omega)),
      fun s v h => does_val rfl rfl (x_load_z ((h.same 3 rfl).trans p123) ((h.far q122 b126.lt (by simp)).trans b126)) (f113.mono ((Mono.drew _).trans h.mono)),
      fun s v h => does_call rfl rfl (x_call2 Try.call58) (add_k ((h.dep 2 rfl).az (N := (max N0 N0 + 1)) (len_add' (n := (max N0 N0 + 1)) la0 la0 (by omega) (by omega))) (h.dep 3 rfl) (by omega) (by omega)),
      fun s v h => does_val rfl rfl (x_load_z ((h.same 3 rfl).trans p123) ((h.far q122 b126.lt (by simp)).trans b126)) (f113.mono ((Mono.drew _).trans h.mono)),
      fun s v h => does_val rfl rfl (x_load_z ((h.same 3 rfl).trans p123) ((h.far q122 b126.lt (by simp)).trans b126)) (f113.mono ((Mono.drew _).trans h.mono)),
      fun s v h => does_call rfl rfl (x_call2 Try.call58) (add_k (h.dep 5 rfl) (h.dep 6 rfl) (by omega) (by omega)),
      fun s v h => does_call rfl rfl (x_call2 Try.call42) (zfloor_k ((h.dep 4 rfl).az (N := (max (max N0 N0 + 1) N1 + 1)) (len_add' (n := (max (max N0 N0 + 1) N1 + 1)) (len_add' (n := (max N0 N0 + 1)) la0 la0 (by omega) (by omega)) la1 (by omega) (by omega))) ((h.dep 7 rfl).az (N := (max N1 N1 + 1)) (len_add' (n := (max N1 N1 + 1)) la1 la1 (by omega) (by omega))) (by omega) (by omega) hu),
      fun s v h => does_val rfl rfl (x_move) (h.dep 8 rfl),
      fun s v h => by obtain ⟨r0, r1, r2, e, f0, f1, f2⟩ := tup3_at (h.dep 9 rfl); exact does_val rfl rfl (x_ext e rfl) f0,
      fun s v h => by obtain ⟨r0, r1, r2, e, f0, f1, f2⟩ := tup3_at (h.dep 9 rfl); exact does_val rfl rfl (x_ext e rfl) f1,
      fun s v h => by obtain ⟨r0, r1, r2, e, f0, f1, f2⟩ := tup3_at (h.dep 9 rfl); exact does_val rfl rfl (x_ext e rfl) f2,
      fun s v h => does_new rfl rfl x_alloc_z (okz _ _ _ _) rfl (.inl rfl),
      fun s v h => does_new rfl rfl x_alloc_z (okz _ _ _ _) rfl (.inl rfl),
      fun s v h => by obtain ⟨q, e1, e2, e3⟩ := new_at (h.dep 13 rfl); exact does_put_z rfl rfl e1 (h.dep 10 rfl).shape e3 (Nat.le_trans HB e2),
      fun s v h => by obtain ⟨q, e1, e2, e3⟩ := new_at (h.dep 14 rfl); exact does_put_z rfl rfl e1 (h.dep 11 rfl).shape e3 (Nat.le_trans HB e2),
      fun s v h => does_val rfl rfl (x_assign) (h.dep 12 rfl), trivial⟩
  intro g138 ts v138 hts E138
  simp only [fillL, Nat.reduceAdd, List.setIfInBounds_toArray, List.set_cons_zero, List.set_cons_succ] at hts
  subst hts
  have T139 : Below w.heap.size w v138 := (below_toDrew T110).trans E138.below
  have l140 : q116 < v109.heap.size := b120.lt
  have l141 : q122 < v109.heap.size := b126.lt
  have l142 : q129 < v109.heap.size := b133.lt
  have b143 : Bx v138 q116 24 #[.bool na0, .slice A0 n0 c0] := (E138.far q116 b120.lt (by simp)).trans b120
  have b144 : Bx v138 q122 24 #[.bool na1, .slice A1 n1 c1] := (E138.far q122 b126.lt (by simp)).trans b126
  have b145 : Bx v138 q129 24 #[.bool false, .slice none 0 0] := (E138.far q129 b133.lt (by simp)).trans b133
  have f159 : Cz v138 (g138 10) (fl ((z + z) + u) (u + u)) := E138.facts 10 (by decide)
  have f160 : Cz v138 (g138 11) (md ((z + z) + u) (u + u)) := E138.facts 11 (by decide)
  have e162 : g138 17 = (.int .i64 0) := E138.facts 17 (by decide)
  obtain ⟨q163, p164, l165, o166⟩ : ∃ q, g138 13 = .pointer (some ⟨q, 0, none⟩) ∧ v109.heap.size ≤ q ∧ OkB v138 q 2 := E138.facts 13 (by decide)
  have h167 : w.heap.size ≤ q163 := Nat.le_trans HB l165
  have n170 : q129 ≠ q163 := by omega
  obtain ⟨q171, p172, l173, o174⟩ : ∃ q, g138 14 = .pointer (some ⟨q, 0, none⟩) ∧ v109.heap.size ≤ q ∧ OkB v138 q 2 := E138.facts 14 (by decide)
  have h175 : w.heap.size ≤ q171 := Nat.le_trans HB l173
  obtain ⟨t180, x182, A183, m184, c185, e186, b181⟩ := put_info (E138.facts 15 (by decide)) p164 f159.shape
  have f187 : Cz v138 (.agg #[.bool x182, .slice A183 m184 c185]) (fl ((z + z) + u) (u + u)) := f159.at e186.symm
  obtain ⟨t188, x190, A191, m192, c193, e194, b189⟩ := put_info (E138.facts 16 (by decide)) p172 f160.shape
  refine then_normal ?_
  refine wp_seq ?_
  have HB : w.heap.size ≤ v138.heap.size := T139.size
  refine wp_plan_seq [.val (.cz (fl ((z + z) + u) (u + u))), .val (.is (.int .i64 0)), .put 4 22, .val (.is (.int .i64 0))] [4] [q129] w.heap.size (by kernel_rfl) (by kernel_rfl) ⟨p130, b145.lt, (by simp), trivial⟩ HB ?_ ?_
  · exact ⟨fun s v h => does_val rfl rfl (x_load_z ((h.same 6 rfl).trans p164) ((h.far q163 b181.lt (nin1 n170.symm)).trans b181)) (f187.mono h.mono),
      fun s v h => does_val rfl rfl (x_move) ((h.same 8 rfl).trans e162),
      fun s v h => does_put_z rfl rfl ((h.same 4 rfl).trans p130) (h.dep 0 rfl).shape (h.mono.ok _ _ b145.ok2) h135,
      fun s v h => does_val rfl rfl (x_assign) (h.dep 1 rfl), trivial⟩
  intro g196 ts v196 hts E196
  simp only [fillL, Nat.reduceAdd, List.setIfInBounds_toArray, List.set_cons_zero, List.set_cons_succ] at hts
  subst hts
  have T197 : Below w.heap.size w v196 := T139.trans E196.below
  have l198 : q116 < v138.heap.size := b143.lt
  have l199 : q122 < v138.heap.size := b144.lt
  have l200 : q129 < v138.heap.size := b145.lt
  have l201 : q163 < v138.heap.size := b181.lt
  have l202 : q171 < v138.heap.size := b189.lt
  have f224 : Cz v196 (g196 0) (fl ((z + z) + u) (u + u)) := E196.facts 0 (by decide)
  have e226 : g196 3 = (.int .i64 0) := E196.facts 3 (by decide)
  obtain ⟨t227, x229, A230, m231, c232, e233, b228⟩ := put_info (E196.facts 2 (by decide)) p130 f224.shape
  have f234 : Cz v196 (.agg #[.bool x229, .slice A230 m231 c232]) (fl ((z + z) + u) (u + u)) := f224.at e233.symm
  refine then_normal ?_
  refine wp_ret ?_
  exact bodyPost_ret (ret_ct rfl p130 b228) rfl ⟨_, rfl, ⟨_, _, rfl, f234, e226⟩, T197⟩

set_option maxHeartbeats 4000000 in
set_option maxRecDepth 8000 in
theorem znear0_k {w : World} {x : Value} {z : Int} {N0 : Nat} (h0 : Az N0 w x z) {y : Value} {u : Int} {N1 : Nat} (h1 : Az N1 w y u) (hN0 : N0 ≤ 35184372088800) (hN1 : N1 ≤ 35184372088800) (hu : u + u = 0)  : Calls Try.prog 66 #[x, y] w (Ret (.tup2 (.cz 0) (.is (.int .i64 11))) w) := by
  have la0 := h0.len
  obtain ⟨na0, A0, n0, c0, M0, rfl, hm0, hz0⟩ := h0.parts
  have la1 := h1.len
  obtain ⟨na1, A1, n1, c1, M1, rfl, hm1, hz1⟩ := h1.parts
  have T0 : Below w.heap.size w w := Below.refl _ _
  go_enter Try.func66, Try.ntmps66
  refine wp_seq ?_
  have HB : w.heap.size ≤ w.heap.size := T0.size
  refine wp_plan_seq [.new 2 (some (24, #[.bool na0, .slice A0 n0 c0])), .new 2 (some (24, #[.bool na1, .slice A1 n1 c1])), .new 2 (some (24, #[.bool false, .slice none 0 0])), .val (.is (.int .i64 0))] [] [] w.heap.size (by kernel_rfl) (by kernel_rfl) trivial HB ?_ ?_
  · exact ⟨fun s v h => does_new rfl rfl (x_box_z (h.same 0 rfl)) (okz _ _ _ _) rfl (.inr rfl),
      fun s v h => does_new rfl rfl (x_box_z (h.same 1 rfl)) (okz _ _ _ _) rfl (.inr rfl),
      fun s v h => does_new rfl rfl x_alloc_z (okz _ _ _ _) rfl (.inr rfl),
      fun s v h => does_val rfl rfl (x_assign) rfl, trivial⟩
  intro g235 ts v235 hts E235
  simp only [fillL, Nat.reduceAdd, List.setIfInBounds_toArray, List.set_cons_zero, List.set_cons_succ] at hts
  subst hts
  have T236 : Below w.heap.size w v235 := T0.trans E235.below
  have f237 := h0.mono E235.mono
  have f239 := h1.mono E235.mono
  obtain ⟨q242, p243, l244, o245, b246⟩ : ∃ q, g235 0 = .pointer (some ⟨q, 0, none⟩) ∧ w.heap.size ≤ q ∧ OkB v235 q 2 ∧ Bx v235 q 24 #[.bool na0, .slice A0 n0 c0] := E235.facts 0 (by decide)
  have h247 : w.heap.size ≤ q242 := Nat.le_trans HB l244
  obtain ⟨q248, p249, l250, o251, b252⟩ : ∃ q, g235 1 = .pointer (some ⟨q, 0, none⟩) ∧ w.heap.size ≤ q ∧ OkB v235 q 2 ∧ Bx v235 q 24 #[.bool na1, .slice A1 n1 c1] := E235.facts 1 (by decide)
  have h253 : w.heap.size ≤ q248 := Nat.le_trans HB l250
  obtain ⟨q255, p256, l257, o258, b259⟩ : ∃ q, g235 2 = .pointer (some ⟨q, 0, none⟩) ∧ w.heap.size ≤ q ∧ OkB v235 q 2 ∧ Bx v235 q 24 #[.bool false, .slice none 0 0] := E235.facts 2 (by decide)
  have h261 : w.heap.size ≤ q255 := Nat.le_trans HB l257
  refine then_normal ?_
  refine wp_seq ?_
  have HB : w.heap.size ≤ v235.heap.size := T236.size
  refine wp_plan_any [.val (.az N0 z), .val (.az N0 z), .val (.cz (z + z)), .val (.az N1 u), .val (.cz ((z + z) + u)), .val (.az N1 u), .val (.az N1 u), .val (.cz (u + u)), .val (.tup3 (.cz 0) (.cz 0) (.is (.int .i64 11))), .val (.tup3 (.cz 0) (.cz 0) (.is (.int .i64 11))), .val (.cz 0), .val (.cz 0), .val (.is (.int .i64 11)), .new 2 none, .new 2 none, .put 6 19, .put 7 20, .val (.is (.int .i64 11))] [] [] w.heap.size (by kernel_rfl) (by kernel_rfl) (by kernel_rfl) trivial HB ?_ ?_
  · exact ⟨fun s v h => does_val rfl rfl (x_load_z ((h.same 2 rfl).trans p243) ((h.far q242 b246.lt (by simp)).trans b246)) (f237.mono ((Mono.drew _).trans h.mono)),
      fun s v h => does_val rfl rfl (x_load_z ((h.same 2 rfl).trans p243) ((h.far q242 b246.lt (by simp)).trans b246)) (f237.mono ((Mono.drew _).trans h.mono)),
      fun s v h => does_call rfl rfl (x_call2 Try.call58) (add_k (h.dep 0 rfl) (h.dep 1 rfl) (by omega) (by omega)),
      fun s v h => does_val rfl rfl (x_load_z ((h.same 3 rfl).trans p249) ((h.far q248 b252.lt (by simp)).trans b252)) (f239.mono ((Mono.drew _).trans h.mono)),
      fun s v h => does_call rfl rfl (x_call2 Try.call58) (add_k ((h.dep 2 rfl).az (N := (max N0 N0 + 1)) (len_add' (n := (max N0 N0 + 1)) la0 la0 (by omega) (by omega))) (h.dep 3 rfl) (by omega) (by omega)),
      fun s v h => does_val rfl rfl (x_load_z ((h.same 3 rfl).trans p249) ((h.far q248 b252.lt (by simp)).trans b252)) (f239.mono ((Mono.drew _).trans h.mono)),
      fun s v h => does_val rfl rfl (x_load_z ((h.same 3 rfl).trans p249) ((h.far q248 b252.lt (by simp)).trans b252)) (f239.mono ((Mono.drew _).trans h.mono)),
      fun s v h => does_call rfl rfl (x_call2 Try.call58) (add_k (h.dep 5 rfl) (h.dep 6 rfl) (by omega) (by omega)),
      fun s v h => does_call rfl rfl (x_call2 Try.call42) (zfloor0_k ((h.dep 4 rfl).az (N := (max (max N0 N0 + 1) N1 + 1)) (len_add' (n := (max (max N0 N0 + 1) N1 + 1)) (len_add' (n := (max N0 N0 + 1)) la0 la0 (by omega) (by omega)) la1 (by omega) (by omega))) ((h.dep 7 rfl).az (N := (max N1 N1 + 1)) (len_add' (n := (max N1 N1 + 1)) la1 la1 (by omega) (by omega))) hu),
      fun s v h => does_val rfl rfl (x_move) (h.dep 8 rfl),
      fun s v h => by obtain ⟨r0, r1, r2, e, f0, f1, f2⟩ := tup3_at (h.dep 9 rfl); exact does_val rfl rfl (x_ext e rfl) f0,
      fun s v h => by obtain ⟨r0, r1, r2, e, f0, f1, f2⟩ := tup3_at (h.dep 9 rfl); exact does_val rfl rfl (x_ext e rfl) f1,
      fun s v h => by obtain ⟨r0, r1, r2, e, f0, f1, f2⟩ := tup3_at (h.dep 9 rfl); exact does_val rfl rfl (x_ext e rfl) f2,
      fun s v h => does_new rfl rfl x_alloc_z (okz _ _ _ _) rfl (.inl rfl),
      fun s v h => does_new rfl rfl x_alloc_z (okz _ _ _ _) rfl (.inl rfl),
      fun s v h => by obtain ⟨q, e1, e2, e3⟩ := new_at (h.dep 13 rfl); exact does_put_z rfl rfl e1 (h.dep 10 rfl).shape e3 (Nat.le_trans HB e2),
      fun s v h => by obtain ⟨q, e1, e2, e3⟩ := new_at (h.dep 14 rfl); exact does_put_z rfl rfl e1 (h.dep 11 rfl).shape e3 (Nat.le_trans HB e2),
      fun s v h => does_val rfl rfl (x_assign) (h.dep 12 rfl), trivial⟩
  intro g264 ts v264 hts E264
  simp only [fillL, Nat.reduceAdd, List.setIfInBounds_toArray, List.set_cons_zero, List.set_cons_succ] at hts
  subst hts
  have T265 : Below w.heap.size w v264 := (below_toDrew T236).trans E264.below
  have l266 : q242 < v235.heap.size := b246.lt
  have l267 : q248 < v235.heap.size := b252.lt
  have l268 : q255 < v235.heap.size := b259.lt
  have b269 : Bx v264 q242 24 #[.bool na0, .slice A0 n0 c0] := (E264.far q242 b246.lt (by simp)).trans b246
  have b270 : Bx v264 q248 24 #[.bool na1, .slice A1 n1 c1] := (E264.far q248 b252.lt (by simp)).trans b252
  have b271 : Bx v264 q255 24 #[.bool false, .slice none 0 0] := (E264.far q255 b259.lt (by simp)).trans b259
  have f285 : Cz v264 (g264 10) 0 := E264.facts 10 (by decide)
  have f286 : Cz v264 (g264 11) 0 := E264.facts 11 (by decide)
  have e288 : g264 17 = (.int .i64 11) := E264.facts 17 (by decide)
  obtain ⟨q289, p290, l291, o292⟩ : ∃ q, g264 13 = .pointer (some ⟨q, 0, none⟩) ∧ v235.heap.size ≤ q ∧ OkB v264 q 2 := E264.facts 13 (by decide)
  have h293 : w.heap.size ≤ q289 := Nat.le_trans HB l291
  have n296 : q255 ≠ q289 := by omega
  obtain ⟨q297, p298, l299, o300⟩ : ∃ q, g264 14 = .pointer (some ⟨q, 0, none⟩) ∧ v235.heap.size ≤ q ∧ OkB v264 q 2 := E264.facts 14 (by decide)
  have h301 : w.heap.size ≤ q297 := Nat.le_trans HB l299
  obtain ⟨t306, x308, A309, m310, c311, e312, b307⟩ := put_info (E264.facts 15 (by decide)) p290 f285.shape
  have f313 : Cz v264 (.agg #[.bool x308, .slice A309 m310 c311]) 0 := f285.at e312.symm
  obtain ⟨t314, x316, A317, m318, c319, e320, b315⟩ := put_info (E264.facts 16 (by decide)) p298 f286.shape
  refine then_normal ?_
  refine wp_seq ?_
  have HB : w.heap.size ≤ v264.heap.size := T265.size
  refine wp_plan_seq [.val (.cz 0), .val (.is (.int .i64 11)), .put 4 22, .val (.is (.int .i64 11))] [4] [q255] w.heap.size (by kernel_rfl) (by kernel_rfl) ⟨p256, b271.lt, (by simp), trivial⟩ HB ?_ ?_
  · exact ⟨fun s v h => does_val rfl rfl (x_load_z ((h.same 6 rfl).trans p290) ((h.far q289 b307.lt (nin1 n296.symm)).trans b307)) (f313.mono h.mono),
      fun s v h => does_val rfl rfl (x_move) ((h.same 8 rfl).trans e288),
      fun s v h => does_put_z rfl rfl ((h.same 4 rfl).trans p256) (h.dep 0 rfl).shape (h.mono.ok _ _ b271.ok2) h261,
      fun s v h => does_val rfl rfl (x_assign) (h.dep 1 rfl), trivial⟩
  intro g322 ts v322 hts E322
  simp only [fillL, Nat.reduceAdd, List.setIfInBounds_toArray, List.set_cons_zero, List.set_cons_succ] at hts
  subst hts
  have T323 : Below w.heap.size w v322 := T265.trans E322.below
  have l324 : q242 < v264.heap.size := b269.lt
  have l325 : q248 < v264.heap.size := b270.lt
  have l326 : q255 < v264.heap.size := b271.lt
  have l327 : q289 < v264.heap.size := b307.lt
  have l328 : q297 < v264.heap.size := b315.lt
  have f350 : Cz v322 (g322 0) 0 := E322.facts 0 (by decide)
  have e352 : g322 3 = (.int .i64 11) := E322.facts 3 (by decide)
  obtain ⟨t353, x355, A356, m357, c358, e359, b354⟩ := put_info (E322.facts 2 (by decide)) p256 f350.shape
  have f360 : Cz v322 (.agg #[.bool x355, .slice A356 m357 c358]) 0 := f350.at e359.symm
  refine then_normal ?_
  refine wp_ret ?_
  exact bodyPost_ret (ret_ct rfl p256 b354) rfl ⟨_, rfl, ⟨_, _, rfl, f360, e352⟩, T323⟩

set_option maxHeartbeats 4000000 in
set_option maxRecDepth 8000 in
theorem zexact_a {w : World} {x : Value} {z : Int} {N0 : Nat} (h0 : Az N0 w x z) {y : Value} {u : Int} {N1 : Nat} (h1 : Az N1 w y u) (hN0 : N0 ≤ 35184372088800) (hN1 : N1 ≤ 35184372088800) (hu : u ≠ 0) (d1 : ((md z u).sign == 0) = true)  : Calls Try.prog 80 #[x, y] w (Ret (.tup2 (.cz (fl z u)) (.is (.int .i64 0))) w) := by
  have la0 := h0.len
  obtain ⟨na0, A0, n0, c0, M0, rfl, hm0, hz0⟩ := h0.parts
  have la1 := h1.len
  obtain ⟨na1, A1, n1, c1, M1, rfl, hm1, hz1⟩ := h1.parts
  have T0 : Below w.heap.size w w := Below.refl _ _
  go_enter Try.func80, Try.ntmps80
  refine wp_seq ?_
  have HB : w.heap.size ≤ w.heap.size := T0.size
  refine wp_plan_seq [.new 2 (some (24, #[.bool na0, .slice A0 n0 c0])), .new 2 (some (24, #[.bool na1, .slice A1 n1 c1])), .new 2 (some (24, #[.bool false, .slice none 0 0])), .val (.is (.int .i64 0))] [] [] w.heap.size (by kernel_rfl) (by kernel_rfl) trivial HB ?_ ?_
  · exact ⟨fun s v h => does_new rfl rfl (x_box_z (h.same 0 rfl)) (okz _ _ _ _) rfl (.inr rfl),
      fun s v h => does_new rfl rfl (x_box_z (h.same 1 rfl)) (okz _ _ _ _) rfl (.inr rfl),
      fun s v h => does_new rfl rfl x_alloc_z (okz _ _ _ _) rfl (.inr rfl),
      fun s v h => does_val rfl rfl (x_assign) rfl, trivial⟩
  intro g361 ts v361 hts E361
  simp only [fillL, Nat.reduceAdd, List.setIfInBounds_toArray, List.set_cons_zero, List.set_cons_succ] at hts
  subst hts
  have T362 : Below w.heap.size w v361 := T0.trans E361.below
  have f363 := h0.mono E361.mono
  have f365 := h1.mono E361.mono
  obtain ⟨q368, p369, l370, o371, b372⟩ : ∃ q, g361 0 = .pointer (some ⟨q, 0, none⟩) ∧ w.heap.size ≤ q ∧ OkB v361 q 2 ∧ Bx v361 q 24 #[.bool na0, .slice A0 n0 c0] := E361.facts 0 (by decide)
  have h373 : w.heap.size ≤ q368 := Nat.le_trans HB l370
  obtain ⟨q374, p375, l376, o377, b378⟩ : ∃ q, g361 1 = .pointer (some ⟨q, 0, none⟩) ∧ w.heap.size ≤ q ∧ OkB v361 q 2 ∧ Bx v361 q 24 #[.bool na1, .slice A1 n1 c1] := E361.facts 1 (by decide)
  have h379 : w.heap.size ≤ q374 := Nat.le_trans HB l376
  obtain ⟨q381, p382, l383, o384, b385⟩ : ∃ q, g361 2 = .pointer (some ⟨q, 0, none⟩) ∧ w.heap.size ≤ q ∧ OkB v361 q 2 ∧ Bx v361 q 24 #[.bool false, .slice none 0 0] := E361.facts 2 (by decide)
  have h387 : w.heap.size ≤ q381 := Nat.le_trans HB l383
  refine then_normal ?_
  refine wp_seq ?_
  have HB : w.heap.size ≤ v361.heap.size := T362.size
  refine wp_plan_seq [.val (.az N0 z), .val (.az N1 u), .val (.tup3 (.cz (fl z u)) (.cz (md z u)) (.is (.int .i64 0))), .val (.tup3 (.cz (fl z u)) (.cz (md z u)) (.is (.int .i64 0))), .val (.cz (fl z u)), .val (.cz (md z u)), .val (.is (.int .i64 0)), .new 2 none, .new 2 none, .put 6 13, .put 7 14, .val (.is (.int .i64 0))] [] [] w.heap.size (by kernel_rfl) (by kernel_rfl) trivial HB ?_ ?_
  · exact ⟨fun s v h => does_val rfl rfl (x_load_z ((h.same 2 rfl).trans p369) ((h.far q368 b372.lt (by simp)).trans b372)) (f363.mono h.mono),
      fun s v h => does_val rfl rfl (x_load_z ((h.same 3 rfl).trans p375) ((h.far q374 b378.lt (by simp)).trans b378)) (f365.mono h.mono),
      fun s v h => does_call rfl rfl (x_call2 Try.call42) (zfloor_k (h.dep 0 rfl) (h.dep 1 rfl) (by omega) (by omega) hu),
      fun s v h => does_val rfl rfl (x_move) (h.dep 2 rfl),
      fun s v h => by obtain ⟨r0, r1, r2, e, f0, f1, f2⟩ := tup3_at (h.dep 3 rfl); exact does_val rfl rfl (x_ext e rfl) f0,
      fun s v h => by obtain ⟨r0, r1, r2, e, f0, f1, f2⟩ := tup3_at (h.dep 3 rfl); exact does_val rfl rfl (x_ext e rfl) f1,
      fun s v h => by obtain ⟨r0, r1, r2, e, f0, f1, f2⟩ := tup3_at (h.dep 3 rfl); exact does_val rfl rfl (x_ext e rfl) f2,
      fun s v h => does_new rfl rfl x_alloc_z (okz _ _ _ _) rfl (.inl rfl),
      fun s v h => does_new rfl rfl x_alloc_z (okz _ _ _ _) rfl (.inl rfl),
      fun s v h => by obtain ⟨q, e1, e2, e3⟩ := new_at (h.dep 7 rfl); exact does_put_z rfl rfl e1 (h.dep 4 rfl).shape e3 (Nat.le_trans HB e2),
      fun s v h => by obtain ⟨q, e1, e2, e3⟩ := new_at (h.dep 8 rfl); exact does_put_z rfl rfl e1 (h.dep 5 rfl).shape e3 (Nat.le_trans HB e2),
      fun s v h => does_val rfl rfl (x_assign) (h.dep 6 rfl), trivial⟩
  intro g390 ts v390 hts E390
  simp only [fillL, Nat.reduceAdd, List.setIfInBounds_toArray, List.set_cons_zero, List.set_cons_succ] at hts
  subst hts
  have T391 : Below w.heap.size w v390 := T362.trans E390.below
  have l392 : q368 < v361.heap.size := b372.lt
  have l393 : q374 < v361.heap.size := b378.lt
  have l394 : q381 < v361.heap.size := b385.lt
  have b395 : Bx v390 q368 24 #[.bool na0, .slice A0 n0 c0] := (E390.far q368 b372.lt (by simp)).trans b372
  have b396 : Bx v390 q374 24 #[.bool na1, .slice A1 n1 c1] := (E390.far q374 b378.lt (by simp)).trans b378
  have b397 : Bx v390 q381 24 #[.bool false, .slice none 0 0] := (E390.far q381 b385.lt (by simp)).trans b385
  have f405 : Cz v390 (g390 4) (fl z u) := E390.facts 4 (by decide)
  have f406 : Cz v390 (g390 5) (md z u) := E390.facts 5 (by decide)
  have e408 : g390 11 = (.int .i64 0) := E390.facts 11 (by decide)
  obtain ⟨q409, p410, l411, o412⟩ : ∃ q, g390 7 = .pointer (some ⟨q, 0, none⟩) ∧ v361.heap.size ≤ q ∧ OkB v390 q 2 := E390.facts 7 (by decide)
  have h413 : w.heap.size ≤ q409 := Nat.le_trans HB l411
  have n416 : q381 ≠ q409 := by omega
  obtain ⟨q417, p418, l419, o420⟩ : ∃ q, g390 8 = .pointer (some ⟨q, 0, none⟩) ∧ v361.heap.size ≤ q ∧ OkB v390 q 2 := E390.facts 8 (by decide)
  have h421 : w.heap.size ≤ q417 := Nat.le_trans HB l419
  obtain ⟨t426, x428, A429, m430, c431, e432, b427⟩ := put_info (E390.facts 9 (by decide)) p410 f405.shape
  have f433 : Cz v390 (.agg #[.bool x428, .slice A429 m430 c431]) (fl z u) := f405.at e432.symm
  obtain ⟨t434, x436, A437, m438, c439, e440, b435⟩ := put_info (E390.facts 10 (by decide)) p418 f406.shape
  have f441 : Cz v390 (.agg #[.bool x436, .slice A437 m438 c439]) (md z u) := f406.at e440.symm
  refine then_normal ?_
  refine wp_seq ?_
  refine wp_block ?_
  refine wp_seq ?_
  have HB : w.heap.size ≤ v390.heap.size := T391.size
  refine wp_plan_seq [.val (.is (.int .i64 0)), .val (.is (.bool false)), .val (.is (.bool false))] [] [] w.heap.size (by kernel_rfl) (by kernel_rfl) trivial HB ?_ ?_
  · exact ⟨fun s v h => does_val rfl rfl (x_move) ((h.same 8 rfl).trans e408),
      fun s v h => does_val rfl rfl (x_neq_err (h.dep 0 rfl) rfl) rfl,
      fun s v h => does_val rfl rfl (x_assign) (h.dep 1 rfl), trivial⟩
  intro g442 ts v442 hts E442
  simp only [fillL, Nat.reduceAdd, List.setIfInBounds_toArray, List.set_cons_zero, List.set_cons_succ] at hts
  subst hts
  have T443 : Below w.heap.size w v442 := T391.trans E442.below
  have l444 : q368 < v390.heap.size := b395.lt
  have l445 : q374 < v390.heap.size := b396.lt
  have l446 : q381 < v390.heap.size := b397.lt
  have l447 : q409 < v390.heap.size := b427.lt
  have l448 : q417 < v390.heap.size := b435.lt
  have b449 : Bx v442 q368 24 #[.bool na0, .slice A0 n0 c0] := (E442.far q368 b395.lt (by simp)).trans b395
  have b450 : Bx v442 q374 24 #[.bool na1, .slice A1 n1 c1] := (E442.far q374 b396.lt (by simp)).trans b396
  have b451 : Bx v442 q381 24 #[.bool false, .slice none 0 0] := (E442.far q381 b397.lt (by simp)).trans b397
  have b452 : Bx v442 q409 t426 #[.bool x428, .slice A429 m430 c431] := (E442.far q409 b427.lt (by simp)).trans b427
  have b453 : Bx v442 q417 t434 #[.bool x436, .slice A437 m438 c439] := (E442.far q417 b435.lt (by simp)).trans b435
  have f463 := f433.mono E442.mono
  have f464 := f441.mono E442.mono
  have e467 : g442 2 = (.bool false) := E442.facts 2 (by decide)
  refine then_normal ?_
  refine wp_cond_false e467 ?_
  refine wp_seq ?_
  have HB : w.heap.size ≤ v442.heap.size := T443.size
  refine wp_plan_seq [.val (.cz (md z u)), .val (.is (.int .i64 (md z u).sign)), .val (.is (.bool false)), .val (.is (.bool false))] [] [] w.heap.size (by kernel_rfl) (by kernel_rfl) trivial HB ?_ ?_
  · exact ⟨fun s v h => does_val rfl rfl (x_load_z ((h.same 7 rfl).trans p418) ((h.far q417 b453.lt (by simp)).trans b453)) (f464.mono h.mono),
      fun s v h => does_call rfl rfl (x_call1 Try.call43) (sign_k ((h.dep 0 rfl).az (N := N1) (md_len hu la1))),
      fun s v h => does_val rfl rfl (x_neq_int (h.dep 1 rfl) rfl) (congrArg (fun x => Value.bool (!x)) d1),
      fun s v h => does_val rfl rfl (x_assign) (h.dep 2 rfl), trivial⟩
  intro g468 ts v468 hts E468
  simp only [fillL, Nat.reduceAdd, List.setIfInBounds_toArray, List.set_cons_zero, List.set_cons_succ] at hts
  subst hts
  have T469 : Below w.heap.size w v468 := T443.trans E468.below
  have l470 : q368 < v442.heap.size := b449.lt
  have l471 : q374 < v442.heap.size := b450.lt
  have l472 : q381 < v442.heap.size := b451.lt
  have l473 : q409 < v442.heap.size := b452.lt
  have l474 : q417 < v442.heap.size := b453.lt
  have b475 : Bx v468 q368 24 #[.bool na0, .slice A0 n0 c0] := (E468.far q368 b449.lt (by simp)).trans b449
  have b476 : Bx v468 q374 24 #[.bool na1, .slice A1 n1 c1] := (E468.far q374 b450.lt (by simp)).trans b450
  have b477 : Bx v468 q381 24 #[.bool false, .slice none 0 0] := (E468.far q381 b451.lt (by simp)).trans b451
  have b478 : Bx v468 q409 t426 #[.bool x428, .slice A429 m430 c431] := (E468.far q409 b452.lt (by simp)).trans b452
  have b479 : Bx v468 q417 t434 #[.bool x436, .slice A437 m438 c439] := (E468.far q417 b453.lt (by simp)).trans b453
  have f489 := f463.mono E468.mono
  have e494 : g468 3 = (.bool false) := E468.facts 3 (by decide)
  refine then_normal ?_
  refine wp_cond_false e494 ?_
  refine wp_skip ?_
  refine block_normal ?_
  refine then_normal ?_
  refine wp_seq ?_
  have HB : w.heap.size ≤ v468.heap.size := T469.size
  refine wp_plan_seq [.val (.cz (fl z u)), .put 4 26, .val (.is (.int .i64 0))] [4] [q381] w.heap.size (by kernel_rfl) (by kernel_rfl) ⟨p382, b477.lt, (by simp), trivial⟩ HB ?_ ?_
  · exact ⟨fun s v h => does_val rfl rfl (x_load_z ((h.same 6 rfl).trans p410) ((h.far q409 b478.lt (nin1 n416.symm)).trans b478)) (f489.mono h.mono),
      fun s v h => does_put_z rfl rfl ((h.same 4 rfl).trans p382) (h.dep 0 rfl).shape (h.mono.ok _ _ b477.ok2) h387,
      fun s v h => does_val rfl rfl (x_assign) rfl, trivial⟩
  intro g495 ts v495 hts E495
  simp only [fillL, Nat.reduceAdd, List.setIfInBounds_toArray, List.set_cons_zero, List.set_cons_succ] at hts
  subst hts
  have T496 : Below w.heap.size w v495 := T469.trans E495.below
  have l497 : q368 < v468.heap.size := b475.lt
  have l498 : q374 < v468.heap.size := b476.lt
  have l499 : q381 < v468.heap.size := b477.lt
  have l500 : q409 < v468.heap.size := b478.lt
  have l501 : q417 < v468.heap.size := b479.lt
  have f518 : Cz v495 (g495 0) (fl z u) := E495.facts 0 (by decide)
  have e519 : g495 2 = (.int .i64 0) := E495.facts 2 (by decide)
  obtain ⟨t520, x522, A523, m524, c525, e526, b521⟩ := put_info (E495.facts 1 (by decide)) p382 f518.shape
  have f527 : Cz v495 (.agg #[.bool x522, .slice A523 m524 c525]) (fl z u) := f518.at e526.symm
  refine then_normal ?_
  refine wp_ret ?_
  exact bodyPost_ret (ret_ct rfl p382 b521) rfl ⟨_, rfl, ⟨_, _, rfl, f527, e519⟩, T496⟩

set_option maxHeartbeats 4000000 in
set_option maxRecDepth 8000 in
theorem zexact_b {w : World} {x : Value} {z : Int} {N0 : Nat} (h0 : Az N0 w x z) {y : Value} {u : Int} {N1 : Nat} (h1 : Az N1 w y u) (hN0 : N0 ≤ 35184372088800) (hN1 : N1 ≤ 35184372088800) (hu : u ≠ 0) (d1 : ((md z u).sign == 0) = false)  : Calls Try.prog 80 #[x, y] w (Ret (.tup2 (.cz 0) (.is (.int .i64 20))) w) := by
  have la0 := h0.len
  obtain ⟨na0, A0, n0, c0, M0, rfl, hm0, hz0⟩ := h0.parts
  have la1 := h1.len
  obtain ⟨na1, A1, n1, c1, M1, rfl, hm1, hz1⟩ := h1.parts
  have T0 : Below w.heap.size w w := Below.refl _ _
  go_enter Try.func80, Try.ntmps80
  refine wp_seq ?_
  have HB : w.heap.size ≤ w.heap.size := T0.size
  refine wp_plan_seq [.new 2 (some (24, #[.bool na0, .slice A0 n0 c0])), .new 2 (some (24, #[.bool na1, .slice A1 n1 c1])), .new 2 (some (24, #[.bool false, .slice none 0 0])), .val (.is (.int .i64 0))] [] [] w.heap.size (by kernel_rfl) (by kernel_rfl) trivial HB ?_ ?_
  · exact ⟨fun s v h => does_new rfl rfl (x_box_z (h.same 0 rfl)) (okz _ _ _ _) rfl (.inr rfl),
      fun s v h => does_new rfl rfl (x_box_z (h.same 1 rfl)) (okz _ _ _ _) rfl (.inr rfl),
      fun s v h => does_new rfl rfl x_alloc_z (okz _ _ _ _) rfl (.inr rfl),
      fun s v h => does_val rfl rfl (x_assign) rfl, trivial⟩
  intro g528 ts v528 hts E528
  simp only [fillL, Nat.reduceAdd, List.setIfInBounds_toArray, List.set_cons_zero, List.set_cons_succ] at hts
  subst hts
  have T529 : Below w.heap.size w v528 := T0.trans E528.below
  have f530 := h0.mono E528.mono
  have f532 := h1.mono E528.mono
  obtain ⟨q535, p536, l537, o538, b539⟩ : ∃ q, g528 0 = .pointer (some ⟨q, 0, none⟩) ∧ w.heap.size ≤ q ∧ OkB v528 q 2 ∧ Bx v528 q 24 #[.bool na0, .slice A0 n0 c0] := E528.facts 0 (by decide)
  have h540 : w.heap.size ≤ q535 := Nat.le_trans HB l537
  obtain ⟨q541, p542, l543, o544, b545⟩ : ∃ q, g528 1 = .pointer (some ⟨q, 0, none⟩) ∧ w.heap.size ≤ q ∧ OkB v528 q 2 ∧ Bx v528 q 24 #[.bool na1, .slice A1 n1 c1] := E528.facts 1 (by decide)
  have h546 : w.heap.size ≤ q541 := Nat.le_trans HB l543
  obtain ⟨q548, p549, l550, o551, b552⟩ : ∃ q, g528 2 = .pointer (some ⟨q, 0, none⟩) ∧ w.heap.size ≤ q ∧ OkB v528 q 2 ∧ Bx v528 q 24 #[.bool false, .slice none 0 0] := E528.facts 2 (by decide)
  have h554 : w.heap.size ≤ q548 := Nat.le_trans HB l550
  refine then_normal ?_
  refine wp_seq ?_
  have HB : w.heap.size ≤ v528.heap.size := T529.size
  refine wp_plan_seq [.val (.az N0 z), .val (.az N1 u), .val (.tup3 (.cz (fl z u)) (.cz (md z u)) (.is (.int .i64 0))), .val (.tup3 (.cz (fl z u)) (.cz (md z u)) (.is (.int .i64 0))), .val (.cz (fl z u)), .val (.cz (md z u)), .val (.is (.int .i64 0)), .new 2 none, .new 2 none, .put 6 13, .put 7 14, .val (.is (.int .i64 0))] [] [] w.heap.size (by kernel_rfl) (by kernel_rfl) trivial HB ?_ ?_
  · exact ⟨fun s v h => does_val rfl rfl (x_load_z ((h.same 2 rfl).trans p536) ((h.far q535 b539.lt (by simp)).trans b539)) (f530.mono h.mono),
      fun s v h => does_val rfl rfl (x_load_z ((h.same 3 rfl).trans p542) ((h.far q541 b545.lt (by simp)).trans b545)) (f532.mono h.mono),
      fun s v h => does_call rfl rfl (x_call2 Try.call42) (zfloor_k (h.dep 0 rfl) (h.dep 1 rfl) (by omega) (by omega) hu),
      fun s v h => does_val rfl rfl (x_move) (h.dep 2 rfl),
      fun s v h => by obtain ⟨r0, r1, r2, e, f0, f1, f2⟩ := tup3_at (h.dep 3 rfl); exact does_val rfl rfl (x_ext e rfl) f0,
      fun s v h => by obtain ⟨r0, r1, r2, e, f0, f1, f2⟩ := tup3_at (h.dep 3 rfl); exact does_val rfl rfl (x_ext e rfl) f1,
      fun s v h => by obtain ⟨r0, r1, r2, e, f0, f1, f2⟩ := tup3_at (h.dep 3 rfl); exact does_val rfl rfl (x_ext e rfl) f2,
      fun s v h => does_new rfl rfl x_alloc_z (okz _ _ _ _) rfl (.inl rfl),
      fun s v h => does_new rfl rfl x_alloc_z (okz _ _ _ _) rfl (.inl rfl),
      fun s v h => by obtain ⟨q, e1, e2, e3⟩ := new_at (h.dep 7 rfl); exact does_put_z rfl rfl e1 (h.dep 4 rfl).shape e3 (Nat.le_trans HB e2),
      fun s v h => by obtain ⟨q, e1, e2, e3⟩ := new_at (h.dep 8 rfl); exact does_put_z rfl rfl e1 (h.dep 5 rfl).shape e3 (Nat.le_trans HB e2),
      fun s v h => does_val rfl rfl (x_assign) (h.dep 6 rfl), trivial⟩
  intro g557 ts v557 hts E557
  simp only [fillL, Nat.reduceAdd, List.setIfInBounds_toArray, List.set_cons_zero, List.set_cons_succ] at hts
  subst hts
  have T558 : Below w.heap.size w v557 := T529.trans E557.below
  have l559 : q535 < v528.heap.size := b539.lt
  have l560 : q541 < v528.heap.size := b545.lt
  have l561 : q548 < v528.heap.size := b552.lt
  have b562 : Bx v557 q535 24 #[.bool na0, .slice A0 n0 c0] := (E557.far q535 b539.lt (by simp)).trans b539
  have b563 : Bx v557 q541 24 #[.bool na1, .slice A1 n1 c1] := (E557.far q541 b545.lt (by simp)).trans b545
  have b564 : Bx v557 q548 24 #[.bool false, .slice none 0 0] := (E557.far q548 b552.lt (by simp)).trans b552
  have f572 : Cz v557 (g557 4) (fl z u) := E557.facts 4 (by decide)
  have f573 : Cz v557 (g557 5) (md z u) := E557.facts 5 (by decide)
  have e575 : g557 11 = (.int .i64 0) := E557.facts 11 (by decide)
  obtain ⟨q576, p577, l578, o579⟩ : ∃ q, g557 7 = .pointer (some ⟨q, 0, none⟩) ∧ v528.heap.size ≤ q ∧ OkB v557 q 2 := E557.facts 7 (by decide)
  have h580 : w.heap.size ≤ q576 := Nat.le_trans HB l578
  obtain ⟨q584, p585, l586, o587⟩ : ∃ q, g557 8 = .pointer (some ⟨q, 0, none⟩) ∧ v528.heap.size ≤ q ∧ OkB v557 q 2 := E557.facts 8 (by decide)
  have h588 : w.heap.size ≤ q584 := Nat.le_trans HB l586
  obtain ⟨t593, x595, A596, m597, c598, e599, b594⟩ := put_info (E557.facts 9 (by decide)) p577 f572.shape
  obtain ⟨t601, x603, A604, m605, c606, e607, b602⟩ := put_info (E557.facts 10 (by decide)) p585 f573.shape
  have f608 : Cz v557 (.agg #[.bool x603, .slice A604 m605 c606]) (md z u) := f573.at e607.symm
  refine then_normal ?_
  refine wp_seq ?_
  refine wp_block ?_
  refine wp_seq ?_
  have HB : w.heap.size ≤ v557.heap.size := T558.size
  refine wp_plan_seq [.val (.is (.int .i64 0)), .val (.is (.bool false)), .val (.is (.bool false))] [] [] w.heap.size (by kernel_rfl) (by kernel_rfl) trivial HB ?_ ?_
  · exact ⟨fun s v h => does_val rfl rfl (x_move) ((h.same 8 rfl).trans e575),
      fun s v h => does_val rfl rfl (x_neq_err (h.dep 0 rfl) rfl) rfl,
      fun s v h => does_val rfl rfl (x_assign) (h.dep 1 rfl), trivial⟩
  intro g609 ts v609 hts E609
  simp only [fillL, Nat.reduceAdd, List.setIfInBounds_toArray, List.set_cons_zero, List.set_cons_succ] at hts
  subst hts
  have T610 : Below w.heap.size w v609 := T558.trans E609.below
  have l611 : q535 < v557.heap.size := b562.lt
  have l612 : q541 < v557.heap.size := b563.lt
  have l613 : q548 < v557.heap.size := b564.lt
  have l614 : q576 < v557.heap.size := b594.lt
  have l615 : q584 < v557.heap.size := b602.lt
  have b616 : Bx v609 q535 24 #[.bool na0, .slice A0 n0 c0] := (E609.far q535 b562.lt (by simp)).trans b562
  have b617 : Bx v609 q541 24 #[.bool na1, .slice A1 n1 c1] := (E609.far q541 b563.lt (by simp)).trans b563
  have b618 : Bx v609 q548 24 #[.bool false, .slice none 0 0] := (E609.far q548 b564.lt (by simp)).trans b564
  have b619 : Bx v609 q576 t593 #[.bool x595, .slice A596 m597 c598] := (E609.far q576 b594.lt (by simp)).trans b594
  have b620 : Bx v609 q584 t601 #[.bool x603, .slice A604 m605 c606] := (E609.far q584 b602.lt (by simp)).trans b602
  have f631 := f608.mono E609.mono
  have e634 : g609 2 = (.bool false) := E609.facts 2 (by decide)
  refine then_normal ?_
  refine wp_cond_false e634 ?_
  refine wp_seq ?_
  have HB : w.heap.size ≤ v609.heap.size := T610.size
  refine wp_plan_seq [.val (.cz (md z u)), .val (.is (.int .i64 (md z u).sign)), .val (.is (.bool true)), .val (.is (.bool true))] [] [] w.heap.size (by kernel_rfl) (by kernel_rfl) trivial HB ?_ ?_
  · exact ⟨fun s v h => does_val rfl rfl (x_load_z ((h.same 7 rfl).trans p585) ((h.far q584 b620.lt (by simp)).trans b620)) (f631.mono h.mono),
      fun s v h => does_call rfl rfl (x_call1 Try.call43) (sign_k ((h.dep 0 rfl).az (N := N1) (md_len hu la1))),
      fun s v h => does_val rfl rfl (x_neq_int (h.dep 1 rfl) rfl) (congrArg (fun x => Value.bool (!x)) d1),
      fun s v h => does_val rfl rfl (x_assign) (h.dep 2 rfl), trivial⟩
  intro g635 ts v635 hts E635
  simp only [fillL, Nat.reduceAdd, List.setIfInBounds_toArray, List.set_cons_zero, List.set_cons_succ] at hts
  subst hts
  have T636 : Below w.heap.size w v635 := T610.trans E635.below
  have l637 : q535 < v609.heap.size := b616.lt
  have l638 : q541 < v609.heap.size := b617.lt
  have l639 : q548 < v609.heap.size := b618.lt
  have l640 : q576 < v609.heap.size := b619.lt
  have l641 : q584 < v609.heap.size := b620.lt
  have b642 : Bx v635 q535 24 #[.bool na0, .slice A0 n0 c0] := (E635.far q535 b616.lt (by simp)).trans b616
  have b643 : Bx v635 q541 24 #[.bool na1, .slice A1 n1 c1] := (E635.far q541 b617.lt (by simp)).trans b617
  have b644 : Bx v635 q548 24 #[.bool false, .slice none 0 0] := (E635.far q548 b618.lt (by simp)).trans b618
  have b645 : Bx v635 q576 t593 #[.bool x595, .slice A596 m597 c598] := (E635.far q576 b619.lt (by simp)).trans b619
  have b646 : Bx v635 q584 t601 #[.bool x603, .slice A604 m605 c606] := (E635.far q584 b620.lt (by simp)).trans b620
  have e661 : g635 3 = (.bool true) := E635.facts 3 (by decide)
  refine then_normal ?_
  refine wp_cond_true e661 ?_
  refine wp_seq ?_
  have HB : w.heap.size ≤ v635.heap.size := T636.size
  refine wp_plan_seq [.val (.is (.agg #[.bool false, .slice none 0 0])), .put 4 25, .val (.is (.int .i64 20))] [4] [q548] w.heap.size (by kernel_rfl) (by kernel_rfl) ⟨p549, b644.lt, (by simp), trivial⟩ HB ?_ ?_
  · exact ⟨fun s v h => does_val rfl rfl x_build0 rfl,
      fun s v h => does_put_z rfl rfl ((h.same 4 rfl).trans p549) ⟨_, _, _, _, (h.dep 0 rfl)⟩ (h.mono.ok _ _ b644.ok2) h554,
      fun s v h => does_val rfl rfl (x_assign) rfl, trivial⟩
  intro g662 ts v662 hts E662
  simp only [fillL, Nat.reduceAdd, List.setIfInBounds_toArray, List.set_cons_zero, List.set_cons_succ] at hts
  subst hts
  have T663 : Below w.heap.size w v662 := T636.trans E662.below
  have l664 : q535 < v635.heap.size := b642.lt
  have l665 : q541 < v635.heap.size := b643.lt
  have l666 : q548 < v635.heap.size := b644.lt
  have l667 : q576 < v635.heap.size := b645.lt
  have l668 : q584 < v635.heap.size := b646.lt
  have e685 : g662 0 = (.agg #[.bool false, .slice none 0 0]) := E662.facts 0 (by decide)
  have e686 : g662 2 = (.int .i64 20) := E662.facts 2 (by decide)
  obtain ⟨t687, b688⟩ := put_lit (E662.facts 1 (by decide)) p549 e685
  have f689 : Cz v662 (.agg #[.bool false, .slice none 0 0]) 0 := cz_zero _
  refine then_normal ?_
  refine wp_ret ?_
  exact bodyPost_ret (ret_ct rfl p549 b688) rfl ⟨_, rfl, ⟨_, _, rfl, f689, e686⟩, T663⟩

set_option maxHeartbeats 4000000 in
set_option maxRecDepth 8000 in
theorem zexact_z {w : World} {x : Value} {z : Int} {N0 : Nat} (h0 : Az N0 w x z) {y : Value} {u : Int} {N1 : Nat} (h1 : Az N1 w y u) (hu : u = 0)  : Calls Try.prog 80 #[x, y] w (Ret (.tup2 (.cz 0) (.is (.int .i64 11))) w) := by
  have la0 := h0.len
  obtain ⟨na0, A0, n0, c0, M0, rfl, hm0, hz0⟩ := h0.parts
  have la1 := h1.len
  obtain ⟨na1, A1, n1, c1, M1, rfl, hm1, hz1⟩ := h1.parts
  have T0 : Below w.heap.size w w := Below.refl _ _
  go_enter Try.func80, Try.ntmps80
  refine wp_seq ?_
  have HB : w.heap.size ≤ w.heap.size := T0.size
  refine wp_plan_seq [.new 2 (some (24, #[.bool na0, .slice A0 n0 c0])), .new 2 (some (24, #[.bool na1, .slice A1 n1 c1])), .new 2 (some (24, #[.bool false, .slice none 0 0])), .val (.is (.int .i64 0))] [] [] w.heap.size (by kernel_rfl) (by kernel_rfl) trivial HB ?_ ?_
  · exact ⟨fun s v h => does_new rfl rfl (x_box_z (h.same 0 rfl)) (okz _ _ _ _) rfl (.inr rfl),
      fun s v h => does_new rfl rfl (x_box_z (h.same 1 rfl)) (okz _ _ _ _) rfl (.inr rfl),
      fun s v h => does_new rfl rfl x_alloc_z (okz _ _ _ _) rfl (.inr rfl),
      fun s v h => does_val rfl rfl (x_assign) rfl, trivial⟩
  intro g690 ts v690 hts E690
  simp only [fillL, Nat.reduceAdd, List.setIfInBounds_toArray, List.set_cons_zero, List.set_cons_succ] at hts
  subst hts
  have T691 : Below w.heap.size w v690 := T0.trans E690.below
  have f692 := h0.mono E690.mono
  have f694 := h1.mono E690.mono
  obtain ⟨q697, p698, l699, o700, b701⟩ : ∃ q, g690 0 = .pointer (some ⟨q, 0, none⟩) ∧ w.heap.size ≤ q ∧ OkB v690 q 2 ∧ Bx v690 q 24 #[.bool na0, .slice A0 n0 c0] := E690.facts 0 (by decide)
  have h702 : w.heap.size ≤ q697 := Nat.le_trans HB l699
  obtain ⟨q703, p704, l705, o706, b707⟩ : ∃ q, g690 1 = .pointer (some ⟨q, 0, none⟩) ∧ w.heap.size ≤ q ∧ OkB v690 q 2 ∧ Bx v690 q 24 #[.bool na1, .slice A1 n1 c1] := E690.facts 1 (by decide)
  have h708 : w.heap.size ≤ q703 := Nat.le_trans HB l705
  obtain ⟨q710, p711, l712, o713, b714⟩ : ∃ q, g690 2 = .pointer (some ⟨q, 0, none⟩) ∧ w.heap.size ≤ q ∧ OkB v690 q 2 ∧ Bx v690 q 24 #[.bool false, .slice none 0 0] := E690.facts 2 (by decide)
  have h716 : w.heap.size ≤ q710 := Nat.le_trans HB l712
  refine then_normal ?_
  refine wp_seq ?_
  have HB : w.heap.size ≤ v690.heap.size := T691.size
  refine wp_plan_seq [.val (.az N0 z), .val (.az N1 u), .val (.tup3 (.cz 0) (.cz 0) (.is (.int .i64 11))), .val (.tup3 (.cz 0) (.cz 0) (.is (.int .i64 11))), .val (.cz 0), .val (.cz 0), .val (.is (.int .i64 11)), .new 2 none, .new 2 none, .put 6 13, .put 7 14, .val (.is (.int .i64 11))] [] [] w.heap.size (by kernel_rfl) (by kernel_rfl) trivial HB ?_ ?_
  · exact ⟨fun s v h => does_val rfl rfl (x_load_z ((h.same 2 rfl).trans p698) ((h.far q697 b701.lt (by simp)).trans b701)) (f692.mono h.mono),
      fun s v h => does_val rfl rfl (x_load_z ((h.same 3 rfl).trans p704) ((h.far q703 b707.lt (by simp)).trans b707)) (f694.mono h.mono),
      fun s v h => does_call rfl rfl (x_call2 Try.call42) (zfloor0_k (h.dep 0 rfl) (h.dep 1 rfl) hu),
      fun s v h => does_val rfl rfl (x_move) (h.dep 2 rfl),
      fun s v h => by obtain ⟨r0, r1, r2, e, f0, f1, f2⟩ := tup3_at (h.dep 3 rfl); exact does_val rfl rfl (x_ext e rfl) f0,
      fun s v h => by obtain ⟨r0, r1, r2, e, f0, f1, f2⟩ := tup3_at (h.dep 3 rfl); exact does_val rfl rfl (x_ext e rfl) f1,
      fun s v h => by obtain ⟨r0, r1, r2, e, f0, f1, f2⟩ := tup3_at (h.dep 3 rfl); exact does_val rfl rfl (x_ext e rfl) f2,
      fun s v h => does_new rfl rfl x_alloc_z (okz _ _ _ _) rfl (.inl rfl),
      fun s v h => does_new rfl rfl x_alloc_z (okz _ _ _ _) rfl (.inl rfl),
      fun s v h => by obtain ⟨q, e1, e2, e3⟩ := new_at (h.dep 7 rfl); exact does_put_z rfl rfl e1 (h.dep 4 rfl).shape e3 (Nat.le_trans HB e2),
      fun s v h => by obtain ⟨q, e1, e2, e3⟩ := new_at (h.dep 8 rfl); exact does_put_z rfl rfl e1 (h.dep 5 rfl).shape e3 (Nat.le_trans HB e2),
      fun s v h => does_val rfl rfl (x_assign) (h.dep 6 rfl), trivial⟩
  intro g719 ts v719 hts E719
  simp only [fillL, Nat.reduceAdd, List.setIfInBounds_toArray, List.set_cons_zero, List.set_cons_succ] at hts
  subst hts
  have T720 : Below w.heap.size w v719 := T691.trans E719.below
  have l721 : q697 < v690.heap.size := b701.lt
  have l722 : q703 < v690.heap.size := b707.lt
  have l723 : q710 < v690.heap.size := b714.lt
  have b724 : Bx v719 q697 24 #[.bool na0, .slice A0 n0 c0] := (E719.far q697 b701.lt (by simp)).trans b701
  have b725 : Bx v719 q703 24 #[.bool na1, .slice A1 n1 c1] := (E719.far q703 b707.lt (by simp)).trans b707
  have b726 : Bx v719 q710 24 #[.bool false, .slice none 0 0] := (E719.far q710 b714.lt (by simp)).trans b714
  have f734 : Cz v719 (g719 4) 0 := E719.facts 4 (by decide)
  have f735 : Cz v719 (g719 5) 0 := E719.facts 5 (by decide)
  have e737 : g719 11 = (.int .i64 11) := E719.facts 11 (by decide)
  obtain ⟨q738, p739, l740, o741⟩ : ∃ q, g719 7 = .pointer (some ⟨q, 0, none⟩) ∧ v690.heap.size ≤ q ∧ OkB v719 q 2 := E719.facts 7 (by decide)
  have h742 : w.heap.size ≤ q738 := Nat.le_trans HB l740
  obtain ⟨q746, p747, l748, o749⟩ : ∃ q, g719 8 = .pointer (some ⟨q, 0, none⟩) ∧ v690.heap.size ≤ q ∧ OkB v719 q 2 := E719.facts 8 (by decide)
  have h750 : w.heap.size ≤ q746 := Nat.le_trans HB l748
  obtain ⟨t755, x757, A758, m759, c760, e761, b756⟩ := put_info (E719.facts 9 (by decide)) p739 f734.shape
  obtain ⟨t763, x765, A766, m767, c768, e769, b764⟩ := put_info (E719.facts 10 (by decide)) p747 f735.shape
  refine then_normal ?_
  refine wp_seq ?_
  refine wp_block ?_
  refine wp_seq ?_
  have HB : w.heap.size ≤ v719.heap.size := T720.size
  refine wp_plan_seq [.val (.is (.int .i64 11)), .val (.is (.bool true)), .val (.is (.bool true))] [] [] w.heap.size (by kernel_rfl) (by kernel_rfl) trivial HB ?_ ?_
  · exact ⟨fun s v h => does_val rfl rfl (x_move) ((h.same 8 rfl).trans e737),
      fun s v h => does_val rfl rfl (x_neq_err (h.dep 0 rfl) rfl) rfl,
      fun s v h => does_val rfl rfl (x_assign) (h.dep 1 rfl), trivial⟩
  intro g771 ts v771 hts E771
  simp only [fillL, Nat.reduceAdd, List.setIfInBounds_toArray, List.set_cons_zero, List.set_cons_succ] at hts
  subst hts
  have T772 : Below w.heap.size w v771 := T720.trans E771.below
  have l773 : q697 < v719.heap.size := b724.lt
  have l774 : q703 < v719.heap.size := b725.lt
  have l775 : q710 < v719.heap.size := b726.lt
  have l776 : q738 < v719.heap.size := b756.lt
  have l777 : q746 < v719.heap.size := b764.lt
  have b778 : Bx v771 q697 24 #[.bool na0, .slice A0 n0 c0] := (E771.far q697 b724.lt (by simp)).trans b724
  have b779 : Bx v771 q703 24 #[.bool na1, .slice A1 n1 c1] := (E771.far q703 b725.lt (by simp)).trans b725
  have b780 : Bx v771 q710 24 #[.bool false, .slice none 0 0] := (E771.far q710 b726.lt (by simp)).trans b726
  have b781 : Bx v771 q738 t755 #[.bool x757, .slice A758 m759 c760] := (E771.far q738 b756.lt (by simp)).trans b756
  have b782 : Bx v771 q746 t763 #[.bool x765, .slice A766 m767 c768] := (E771.far q746 b764.lt (by simp)).trans b764
  have e796 : g771 2 = (.bool true) := E771.facts 2 (by decide)
  refine then_normal ?_
  refine wp_cond_true e796 ?_
  refine wp_seq ?_
  have HB : w.heap.size ≤ v771.heap.size := T772.size
  refine wp_plan_seq [.val (.is (.agg #[.bool false, .slice none 0 0])), .val (.is (.int .i64 11)), .put 4 19, .val (.is (.int .i64 11))] [4] [q710] w.heap.size (by kernel_rfl) (by kernel_rfl) ⟨p711, b780.lt, (by simp), trivial⟩ HB ?_ ?_
  · exact ⟨fun s v h => does_val rfl rfl x_build0 rfl,
      fun s v h => does_val rfl rfl (x_move) ((h.same 8 rfl).trans e737),
      fun s v h => does_put_z rfl rfl ((h.same 4 rfl).trans p711) ⟨_, _, _, _, (h.dep 0 rfl)⟩ (h.mono.ok _ _ b780.ok2) h716,
      fun s v h => does_val rfl rfl (x_assign) (h.dep 1 rfl), trivial⟩
  intro g797 ts v797 hts E797
  simp only [fillL, Nat.reduceAdd, List.setIfInBounds_toArray, List.set_cons_zero, List.set_cons_succ] at hts
  subst hts
  have T798 : Below w.heap.size w v797 := T772.trans E797.below
  have l799 : q697 < v771.heap.size := b778.lt
  have l800 : q703 < v771.heap.size := b779.lt
  have l801 : q710 < v771.heap.size := b780.lt
  have l802 : q738 < v771.heap.size := b781.lt
  have l803 : q746 < v771.heap.size := b782.lt
  have e819 : g797 0 = (.agg #[.bool false, .slice none 0 0]) := E797.facts 0 (by decide)
  have e821 : g797 3 = (.int .i64 11) := E797.facts 3 (by decide)
  obtain ⟨t822, b823⟩ := put_lit (E797.facts 2 (by decide)) p711 e819
  have f824 : Cz v797 (.agg #[.bool false, .slice none 0 0]) 0 := cz_zero _
  refine then_normal ?_
  refine wp_ret ?_
  exact bodyPost_ret (ret_ct rfl p711 b823) rfl ⟨_, rfl, ⟨_, _, rfl, f824, e821⟩, T798⟩

end Go.Proofs.Ytdmahjbjlppeaaa
