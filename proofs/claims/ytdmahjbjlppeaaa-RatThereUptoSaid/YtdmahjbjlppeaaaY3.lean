
/- Near, Exact, Root, Two, Compare. -/
import Derived.Test.YtdmahjbjlppeaaaY2
namespace Go.Proofs.Ytdmahjbjlppeaaa
open Go.RowKit

set_option maxHeartbeats 4000000 in
set_option maxRecDepth 8000 in
theorem znear_k {w : World} {x : Value} {z : Int} {N0 : Nat} (h0 : Az N0 w x z) {y : Value} {u : Int} {N1 : Nat} (h1 : Az N1 w y u) (hN0 : N0 ≤ 35184372088800) (hN1 : N1 ≤ 35184372088800) (hu : u + u ≠ 0)  : Calls Try.prog 66 #[x, y] w (Ret (.tup2 (.cz (fl (z + z + u) (u + u))) (.is (.int .i64 0))) w) := by
  have la0 := h0.len
  obtain ⟨na0, A0, n0, c0, M0, rfl, hm0, hz0⟩ := h0.parts
  have la1 := h1.len
  obtain ⟨na1, A1, n1, c1, M1, rfl, hm1, hz1⟩ := h1.parts
  have T0 : Below w.heap.size w w := Below.refl _ _
  go_enter Try.func66, Try.ntmps66
  refine wp_seq ?_
  have HB : w.heap.size ≤ w.heap.size := T0.size
  refine wp_plan_seq [.new 2 (some (24, #[.bool na0, .slice A0 n0 c0])), .new 2 (some (24, #[.bool na1, .slice A1 n1 c1])), .new 2 (some (24, #[.bool false, .slice none 0 0])), .val (.is (.int .i64 0))] [] [] w.heap.size (by kernel_rfl) (by kernel_rfl) trivial HB ?_ ?_
  · exact ⟨fun s v h => does_new rfl rfl (x_box_z (h.same 0 rfl)) (okz _ _ _ _) rfl (.inr rfl),
      fun s v h => does_new rfl rfl (x_box_z (h.same 1 rfl)) (okz _ _ _ _) rfl (.inr rfl),
      fun s v h => does_new rfl rfl x_alloc_z (okz _ _ _ _) rfl (.inr rfl),
      fun s v h => does_val rfl rfl (x_assign) rfl, trivial⟩
  intro g109 ts v109 hts E109
  simp only [fillL, Nat.reduceAdd, List.setIfInBounds_toArray, List.set_cons_zero, List.set_cons_succ] at hts
  subst hts
  have T110 : Below w.heap.size w v109 := T0.trans E109.below
  have f111 := h0.mono E109.mono
  have f113 := h1.mono E109.mono
  obtain ⟨q116, p117, l118, o119, b120⟩ : ∃ q, g109 0 = .pointer (some ⟨q, 0, none⟩) ∧ w.heap.size ≤ q ∧ OkB v109 q 2 ∧ Bx v109 q 24 #[.bool na0, .slice A0 n0 c0] := E109.facts 0 (by decide)
  have h121 : w.heap.size ≤ q116 := Nat.le_trans HB l118
  obtain ⟨q122, p123, l124, o125, b126⟩ : ∃ q, g109 1 = .pointer (some ⟨q, 0, none⟩) ∧ w.heap.size ≤ q ∧ OkB v109 q 2 ∧ Bx v109 q 24 #[.bool na1, .slice A1 n1 c1] := E109.facts 1 (by decide)
  have h127 : w.heap.size ≤ q122 := Nat.le_trans HB l124
  obtain ⟨q129, p130, l131, o132, b133⟩ : ∃ q, g109 2 = .pointer (some ⟨q, 0, none⟩) ∧ w.heap.size ≤ q ∧ OkB v109 q 2 ∧ Bx v109 q 24 #[.bool false, .slice none 0 0] := E109.facts 2 (by decide)
  have h135 : w.heap.size ≤ q129 := Nat.le_trans HB l131
  refine then_normal ?_
  refine wp_seq ?_
  have HB : w.heap.size ≤ v109.heap.size := T110.size
  refine wp_plan_any [.val (.az N0 z), .val (.az N0 z), .val (.cz (z + z)), .val (.az N1 u), .val (.cz ((z + z) + u)), .val (.az N1 u), .val (.az N1 u), .val (.cz (u + u)), .val (.tup3 (.cz (fl ((z + z) + u) (u + u))) (.cz (md ((z + z) + u) (u + u))) (.is (.int .i64 0))), .val (.tup3 (.cz (fl ((z + z) + u) (u + u))) (.cz (md ((z + z) + u) (u + u))) (.is (.int .i64 0))), .val (.cz (fl ((z + z) + u) (u + u))), .val (.cz (md ((z + z) + u) (u + u))), .val (.is (.int .i64 0)), .new 2 none, .new 2 none, .put 6 19, .put 7 20, .val (.is (.int .i64 0))] [] [] w.heap.size (by kernel_rfl) (by kernel_rfl) (by kernel_rfl) trivial HB ?_ ?_
  · exact ⟨fun s v h => does_val rfl rfl (x_load_z ((h.same 2 rfl).trans p117) ((h.far q116 b120.lt (by simp)).trans b120)) (f111.mono ((Mono.drew _).trans h.mono)),
      fun s v h => does_val rfl rfl (x_load_z ((h.same 2 rfl).trans p117) ((h.far q116 b120.lt (by simp)).trans b120)) (f111.mono ((Mono.drew _).trans h.mono)),
      fun s v h => does_call rfl rfl (x_call2 Try.call58) (add_k (h.dep 0 rfl) (h.dep 1 rfl) (by omega) (by omega)),
      fun s v h => does_val rfl rfl (x_load_z ((h.same 3 rfl).trans p123) ((h.far q122 b126.lt (by simp)).trans b126)) (f113.mono ((Mono.drew _).trans h.mono)),
      fun s v h => does_call rfl rfl (x_call2 Try.call58) (add_k ((h.dep 2 rfl).az (N := (max N0 N0 + 1)) (len_add' (n := (max N0 N0 + 1)) la0 la0 (by omega) (by omega))) (h.dep 3 rfl) (by omega) (by omega)),
      fun s v h => does_val rfl rfl (x_load_z ((h.same 3 rfl).trans p123) ((h.far q122 b126.lt (by simp)).trans b126)) (f113.mono ((Mono.drew _).trans h.mono)),
      fun s v h => does_val rfl rfl (x_load_z ((h.same 3 rfl).trans p123) ((h.far q122 b126.lt (by simp)).trans b126)) (f113.mono ((Mono.drew _).trans h.mono)),
      fun s v h => does_call rfl rfl (x_call2 Try.call58) (add_k (h.dep 5 rfl) (h.dep 6 rfl) (by omega) (by omega)),
      fun s v h => does_call rfl rfl (x_call2 Try.call42) (zfloor_k ((h.dep 4 rfl).az (N := (max (max N0 N0 + 1) N1 + 1)) (len_add' (n := (max (max N0 N0 + 1) N1 + 1)) (len_add' (n := (max N0 N0 + 1)) la0 la0 (by omega) (by omega)) la1 (by omega) (by omega))) ((h.dep 7 rfl).az (N := (max N1 N1 + 1)) (len_add' (n := (max N1 N1 + 1)) la1 la1 (by omega) (by omega))) (by omega) (by omega) hu),
      fun s v h => does_val rfl rfl (x_move) (h.dep 8 rfl),
      fun s v h => by obtain ⟨r0, r1, r2, e, f0, f1, f2⟩ := tup3_at (h.dep 9 rfl); exact does_val rfl rfl (x_ext e rfl) f0,
      fun s v h => by obtain ⟨r0, r1, r2, e, f0, f1, f2⟩ := tup3_at (h.dep 9 rfl); exact does_val rfl rfl (x_ext e rfl) f1,
      fun s v h => by obtain ⟨r0, r1, r2, e, f0, f1, f2⟩ := tup3_at (h.dep 9 rfl); exact does_val rfl rfl (x_ext e rfl) f2,
      fun s v h => does_new rfl rfl x_alloc_z (okz _ _ _ _) rfl (.inl rfl),
      fun s v h => does_new rfl rfl x_alloc_z (okz _ _ _ _) rfl (.inl rfl),
      fun s v h => by obtain ⟨q, e1, e2, e3⟩ := new_at (h.dep 13 rfl); exact does_put_z rfl rfl e1 (h.dep 10 rfl).shape e3 (Nat.le_trans HB e2),
      fun s v h => by obtain ⟨q, e1, e2, e3⟩ := new_at (h.dep 14 rfl); exact does_put_z rfl rfl e1 (h.dep 11 rfl).shape e3 (Nat.le_trans HB e2),
      fun s v h => does_val rfl rfl (x_assign) (h.dep 12 rfl), trivial⟩
  intro g138 ts v138 hts E138
  simp only [fillL, Nat.reduceAdd, List.setIfInBounds_toArray, List.set_cons_zero, List.set_cons_succ] at hts
  subst hts
  have T139 : Below w.heap.size w v138 := (below_toDrew T110).trans E138.below
  have l140 : q116 < v109.heap.size := b120.lt
  have l141 : q122 < v109.heap.size := b126.lt
  have l142 : q129 < v109.heap.size := b133.lt
  have b143 : Bx v138 q116 24 #[.bool na0, .slice A0 n0 c0] := (E138.far q116 b120.lt (by simp)).trans b120
  have b144 : Bx v138 q122 24 #[.bool na1, .slice A1 n1 c1] := (E138.far q122 b126.lt (by simp)).trans b126
  have b145 : Bx v138 q129 24 #[.bool false, .slice none 0 0] := (E138.far q129 b133.lt (by simp)).trans b133
  have f159 : Cz v138 (g138 10) (fl ((z + z) + u) (u + u)) := E138.facts 10 (by decide)
  have f160 : Cz v138 (g138 11) (md ((z + z) + u) (u + u)) := E138.facts 11 (by decide)
  have e162 : g138 17 = (.int .i64 0) := E138.facts 17 (by decide)
  obtain ⟨q163, p164, l165, o166⟩ : ∃ q, g138 13 = .pointer (some ⟨q, 0, none⟩) ∧ v109.heap.size ≤ q ∧ OkB v138 q 2 := E138.facts 13 (by decide)
  have h167 : w.heap.size ≤ q163 := Nat.le_trans HB l165
  have n170 : q129 ≠ q163 := by omega
  obtain ⟨q171, p172, l173, o174⟩ : ∃ q, g138 14 = .pointer (some ⟨q, 0, none⟩) ∧ v109.heap.size ≤ q ∧ OkB v138 q 2 := E138.facts 14 (by decide)
  have h175 : w.heap.size ≤ q171 := Nat.le_trans HB l173
  obtain ⟨t180, x182, A183, m184, c185, e186, b181⟩ := put_info (E138.facts 15 (by decide)) p164 f159.shape
  have f187 : Cz v138 (.agg #[.bool x182, .slice A183 m184 c185]) (fl ((z + z) + u) (u + u)) := f159.at e186.symm
  obtain ⟨t188, x190, A191, m192, c193, e194, b189⟩ := put_info (E138.facts 16 (by decide)) p172 f160.shape
  refine then_normal ?_
  refine wp_seq ?_
  have HB : w.heap.size ≤ v138.heap.size := T139.size
  refine wp_plan_seq [.val (.cz (fl ((z + z) + u) (u + u))), .val (.is (.int .i64 0)), .put 4 22, .val (.is (.int .i64 0))] [4] [q129] w.heap.size (by kernel_rfl) (by kernel_rfl) ⟨p130, b145.lt, (by simp), trivial⟩ HB ?_ ?_
  · exact ⟨fun s v h => does_val rfl rfl (x_load_z ((h.same 6 rfl).trans p164) ((h.far q163 b181.lt (nin1 n170.symm)).trans b181)) (f187.mono h.mono),
      fun s v h => does_val rfl rfl (x_move) ((h.same 8 rfl).trans e162),
      fun s v h => does_put_z rfl rfl ((h.same 4 rfl).trans p130) (h.dep 0 rfl).shape (h.mono.ok _ _ b145.ok2) h135,
      fun s v h => does_val rfl rfl (x_assign) (h.dep 1 rfl), trivial⟩
  intro g196 ts v196 hts E196
  simp only [fillL, Nat.reduceAdd, List.setIfInBounds_toArray, List.set_cons_zero, List.set_cons_succ] at hts
  subst hts
  have T197 : Below w.heap.size w v196 := T139.trans E196.below
  have l198 : q116 < v138.heap.size := b143.lt
  have l199 : q122 < v138.heap.size := b144.lt
  have l200 : q129 < v138.heap.size := b145.lt
  have l201 : q163 < v138.heap.size := b181.lt
  have l202 : q171 < v138.heap.size := b189.lt
  have f224 : Cz v196 (g196 0) (fl ((z + z) + u) (u + u)) := E196.facts 0 (by decide)
  have e226 : g196 3 = (.int .i64 0) := E196.facts 3 (by decide)
  obtain ⟨t227, x229, A230, m231, c232, e233, b228⟩ := put_info (E196.facts 2 (by decide)) p130 f224.shape
  have f234 : Cz v196 (.agg #[.bool x229, .slice A230 m231 c232]) (fl ((z + z) + u) (u + u)) := f224.at e233.symm
  refine then_normal ?_
  refine wp_ret ?_
  exact bodyPost_ret (ret_ct rfl p130 b228) rfl ⟨_, rfl, ⟨_, _, rfl, f234, e226⟩, T197⟩

set_option maxHeartbeats 4000000 in
set_option maxRecDepth 8000 in
theorem zexact_a {w : World} {x : Value} {z : Int} {N0 : Nat} (h0 : Az N0 w x z) {y : Value} {u : Int} {N1 : Nat} (h1 : Az N1 w y u) (hN0 : N0 ≤ 35184372088800) (hN1 : N1 ≤ 35184372088800) (hu : u ≠ 0) (d1 : ((md z u).sign == 0) = true)  : Calls Try.prog 80 #[x, y] w (Ret (.tup2 (.cz (fl z u)) (.is (.int .i64 0))) w) := by
  have la0 := h0.len
  obtain ⟨na0, A0, n0, c0, M0, rfl, hm0, hz0⟩ := h0.parts
  have la1 := h1.len
  obtain ⟨na1, A1, n1, c1, M1, rfl, hm1, hz1⟩ := h1.parts
  have T0 : Below w.heap.size w w := Below.refl _ _
  go_enter Try.func80, Try.ntmps80
  refine wp_seq ?_
  have HB : w.heap.size ≤ w.heap.size := T0.size
  refine wp_plan_seq [.new 2 (some (24, #[.bool na0, .slice A0 n0 c0])), .new 2 (some (24, #[.bool na1, .slice A1 n1 c1])), .new 2 (some (24, #[.bool false, .slice none 0 0])), .val (.is (.int .i64 0))] [] [] w.heap.size (by kernel_rfl) (by kernel_rfl) trivial HB ?_ ?_
  · exact ⟨fun s v h => does_new rfl rfl (x_box_z (h.same 0 rfl)) (okz _ _ _ _) rfl (.inr rfl),
      fun s v h => does_new rfl rfl (x_box_z (h.same 1 rfl)) (okz _ _ _ _) rfl (.inr rfl),
      fun s v h => does_new rfl rfl x_alloc_z (okz _ _ _ _) rfl (.inr rfl),
      fun s v h => does_val rfl rfl (x_assign) rfl, trivial⟩
  intro g361 ts v361 hts E361
  simp only [fillL, Nat.reduceAdd, List.setIfInBounds_toArray, List.set_cons_zero, List.set_cons_succ] at hts
  subst hts
  have T362 : Below w.heap.size w v361 := T0.trans E361.below
  have f363 := h0.mono E361.mono
  have f365 := h1.mono E361.mono
  obtain ⟨q368, p369, l370, o371, b372⟩ : ∃ q, g361 0 = .pointer (some ⟨q, 0, none⟩) ∧ w.heap.size ≤ q ∧ OkB v361 q 2 ∧ Bx v361 q 24 #[.bool na0, .slice A0 n0 c0] := E361.facts 0 (by decide)
  have h373 : w.heap.size ≤ q368 := Nat.le_trans HB l370
  obtain ⟨q374, p375, l376, o377, b378⟩ : ∃ q, g361 1 = .pointer (some ⟨q, 0, none⟩) ∧ w.heap.size ≤ q ∧ OkB v361 q 2 ∧ Bx v361 q 24 #[.bool na1, .slice A1 n1 c1] := E361.facts 1 (by decide)
  have h379 : w.heap.size ≤ q374 := Nat.le_trans HB l376
  obtain ⟨q381, p382, l383, o384, b385⟩ : ∃ q, g361 2 = .pointer (some ⟨q, 0, none⟩) ∧ w.heap.size ≤ q ∧ OkB v361 q 2 ∧ Bx v361 q 24 #[.bool false, .slice none 0 0] := E361.facts 2 (by decide)
  have h387 : w.heap.size ≤ q381 := Nat.le_trans HB l383
  refine then_normal ?_
  refine wp_seq ?_
  have HB : w.heap.size ≤ v361.heap.size := T362.size
  refine wp_plan_seq [.val (.az N0 z), .val (.az N1 u), .val (.tup3 (.cz (fl z u)) (.cz (md z u)) (.is (.int .i64 0))), .val (.tup3 (.cz (fl z u)) (.cz (md z u)) (.is (.int .i64 0))), .val (.cz (fl z u)), .val (.cz (md z u)), .val (.is (.int .i64 0)), .new 2 none, .new 2 none, .put 6 13, .put 7 14, .val (.is (.int .i64 0))] [] [] w.heap.size (by kernel_rfl) (by kernel_rfl) trivial HB ?_ ?_
  · exact ⟨fun s v h => does_val rfl rfl (x_load_z ((h.same 2 rfl).trans p369) ((h.far q368 b372.lt (by simp)).trans b372)) (f363.mono h.mono),
      fun s v h => does_val rfl rfl (x_load_z ((h.same 3 rfl).trans p375) ((h.far q374 b378.lt (by simp)).trans b378)) (f365.mono h.mono),
      fun s v h => does_call rfl rfl (x_call2 Try.call42) (zfloor_k (h.dep 0 rfl) (h.dep 1 rfl) (by omega) (by omega) hu),
      fun s v h => does_val rfl rfl (x_move) (h.dep 2 rfl),
      fun s v h => by obtain ⟨r0, r1, r2, e, f0, f1, f2⟩ := tup3_at (h.dep 3 rfl); exact does_val rfl rfl (x_ext e rfl) f0,
      fun s v h => by obtain ⟨r0, r1, r2, e, f0, f1, f2⟩ := tup3_at (h.dep 3 rfl); exact does_val rfl rfl (x_ext e rfl) f1,
      fun s v h => by obtain ⟨r0, r1, r2, e, f0, f1, f2⟩ := tup3_at (h.dep 3 rfl); exact does_val rfl rfl (x_ext e rfl) f2,
      fun s v h => does_new rfl rfl x_alloc_z (okz _ _ _ _) rfl (.inl rfl),
      fun s v h => does_new rfl rfl x_alloc_z (okz _ _ _ _) rfl (.inl rfl),
      fun s v h => by obtain ⟨q, e1, e2, e3⟩ := new_at (h.dep 7 rfl); exact does_put_z rfl rfl e1 (h.dep 4 rfl).shape e3 (Nat.le_trans HB e2),
      fun s v h => by obtain ⟨q, e1, e2, e3⟩ := new_at (h.dep 8 rfl); exact does_put_z rfl rfl e1 (h.dep 5 rfl).shape e3 (Nat.le_trans HB e2),
      fun s v h => does_val rfl rfl (x_assign) (h.dep 6 rfl), trivial⟩
  intro g390 ts v390 hts E390
  simp only [fillL, Nat.reduceAdd, List.setIfInBounds_toArray, List.set_cons_zero, List.set_cons_succ] at hts
  subst hts
  have T391 : Below w.heap.size w v390 := T362.trans E390.below
  have l392 : q368 < v361.heap.size := b372.lt
  have l393 : q374 < v361.heap.size := b378.lt
  have l394 : q381 < v361.heap.size := b385.lt
  have b395 : Bx v390 q368 24 #[.bool na0, .slice A0 n0 c0] := (E390.far q368 b372.lt (by simp)).trans b372
  have b396 : Bx v390 q374 24 #[.bool na1, .slice A1 n1 c1] := (E390.far q374 b378.lt (by simp)).trans b378
  have b397 : Bx v390 q381 24 #[.bool false, .slice none 0 0] := (E390.far q381 b385.lt (by simp)).trans b385
  have f405 : Cz v390 (g390 4) (fl z u) := E390.facts 4 (by decide)
  have f406 : Cz v390 (g390 5) (md z u) := E390.facts 5 (by decide)
  have e408 : g390 11 = (.int .i64 0) := E390.facts 11 (by decide)
  obtain ⟨q409, p410, l411, o412⟩ : ∃ q, g390 7 = .pointer (some ⟨q, 0, none⟩) ∧ v361.heap.size ≤ q ∧ OkB v390 q 2 := E390.facts 7 (by decide)
  have h413 : w.heap.size ≤ q409 := Nat.le_trans HB l411
  have n416 : q381 ≠ q409 := by omega
  obtain ⟨q417, p418, l419, o420⟩ : ∃ q, g390 8 = .pointer (some ⟨q, 0, none⟩) ∧ v361.heap.size ≤ q ∧ OkB v390 q 2 := E390.facts 8 (by decide)
  have h421 : w.heap.size ≤ q417 := Nat.le_trans HB l419
  obtain ⟨t426, x428, A429, m430, c431, e432, b427⟩ := put_info (E390.facts 9 (by decide)) p410 f405.shape
  have f433 : Cz v390 (.agg #[.bool x428, .slice A429 m430 c431]) (fl z u) := f405.at e432.symm
  obtain ⟨t434, x436, A437, m438, c439, e440, b435⟩ := put_info (E390.facts 10 (by decide)) p418 f406.shape
  have f441 : Cz v390 (.agg #[.bool x436, .slice A437 m438 c439]) (md z u) := f406.at e440.symm
  refine then_normal ?_
  refine wp_seq ?_
  refine wp_block ?_
  refine wp_seq ?_
  have HB : w.heap.size ≤ v390.heap.size := T391.size
  refine wp_plan_seq [.val (.is (.int .i64 0)), .val (.is (.bool false)), .val (.is (.bool false))] [] [] w.heap.size (by kernel_rfl) (by kernel_rfl) trivial HB ?_ ?_
  · exact ⟨fun s v h => does_val rfl rfl (x_move) ((h.same 8 rfl).trans e408),
      fun s v h => does_val rfl rfl (x_neq_err (h.dep 0 rfl) rfl) rfl,
      fun s v h => does_val rfl rfl (x_assign) (h.dep 1 rfl), trivial⟩
  intro g442 ts v442 hts E442
  simp only [fillL, Nat.reduceAdd, List.setIfInBounds_toArray, List.set_cons_zero, List.set_cons_succ] at hts
  subst hts
  have T443 : Below w.heap.size w v442 := T391.trans E442.below
  have l444 : q368 < v390.heap.size := b395.lt
  have l445 : q374 < v390.heap.size := b396.lt
  have l446 : q381 < v390.heap.size := b397.lt
  have l447 : q409 < v390.heap.size := b427.lt
  have l448 : q417 < v390.heap.size := b435.lt
  have b449 : Bx v442 q368 24 #[.bool na0, .slice A0 n0 c0] := (E442.far q368 b395.lt (by simp)).trans b395
  have b450 : Bx v442 q374 24 #[.bool na1, .slice A1 n1 c1] := (E442.far q374 b396.lt (by simp)).trans b396
  have b451 : Bx v442 q381 24 #[.bool false, .slice none 0 0] := (E442.far q381 b397.lt (by simp)).trans b397
  have b452 : Bx v442 q409 t426 #[.bool x428, .slice A429 m430 c431] := (E442.far q409 b427.lt (by simp)).trans b427
  have b453 : Bx v442 q417 t434 #[.bool x436, .slice A437 m438 c439] := (E442.far q417 b435.lt (by simp)).trans b435
  have f463 := f433.mono E442.mono
  have f464 := f441.mono E442.mono
  have e467 : g442 2 = (.bool false) := E442.facts 2 (by decide)
  refine then_normal ?_
  refine wp_cond_false e467 ?_
  refine wp_seq ?_
  have HB : w.heap.size ≤ v442.heap.size := T443.size
  refine wp_plan_seq [.val (.cz (md z u)), .val (.is (.int .i64 (md z u).sign)), .val (.is (.bool false)), .val (.is (.bool false))] [] [] w.heap.size (by kernel_rfl) (by kernel_rfl) trivial HB ?_ ?_
  · exact ⟨fun s v h => does_val rfl rfl (x_load_z ((h.same 7 rfl).trans p418) ((h.far q417 b453.lt (by simp)).trans b453)) (f464.mono h.mono),
      fun s v h => does_call rfl rfl (x_call1 Try.call43) (sign_k ((h.dep 0 rfl).az (N := N1) (md_len hu la1))),
      fun s v h => does_val rfl rfl (x_neq_int (h.dep 1 rfl) rfl) (congrArg (fun x => Value.bool (!x)) d1),
      fun s v h => does_val rfl rfl (x_assign) (h.dep 2 rfl), trivial⟩
  intro g468 ts v468 hts E468
  simp only [fillL, Nat.reduceAdd, List.setIfInBounds_toArray, List.set_cons_zero, List.set_cons_succ] at hts
  subst hts
  have T469 : Below w.heap.size w v468 := T443.trans E468.below
  have l470 : q368 < v442.heap.size := b449.lt
  have l471 : q374 < v442.heap.size := b450.lt
  have l472 : q381 < v442.heap.size := b451.lt
  have l473 : q409 < v442.heap.size := b452.lt
  have l474 : q417 < v442.heap.size := b453.lt
  have b475 : Bx v468 q368 24 #[.bool na0, .slice A0 n0 c0] := (E468.far q368 b449.lt (by simp)).trans b449
  have b476 : Bx v468 q374 24 #[.bool na1, .slice A1 n1 c1] := (E468.far q374 b450.lt (by simp)).trans b450
  have b477 : Bx v468 q381 24 #[.bool false, .slice none 0 0] := (E468.far q381 b451.lt (by simp)).trans b451
  have b478 : Bx v468 q409 t426 #[.bool x428, .slice A429 m430 c431] := (E468.far q409 b452.lt (by simp)).trans b452
  have b479 : Bx v468 q417 t434 #[.bool x436, .slice A437 m438 c439] := (E468.far q417 b453.lt (by simp)).trans b453
  have f489 := f463.mono E468.mono
  have e494 : g468 3 = (.bool false) := E468.facts 3 (by decide)
  refine then_normal ?_
  refine wp_cond_false e494 ?_
  refine wp_skip ?_
  refine block_normal ?_
  refine then_normal ?_
  refine wp_seq ?_
  have HB : w.heap.size ≤ v468.heap.size := T469.size
  refine wp_plan_seq [.val (.cz (fl z u)), .put 4 26, .val (.is (.int .i64 0))] [4] [q381] w.heap.size (by kernel_rfl) (by kernel_rfl) ⟨p382, b477.lt, (by simp), trivial⟩ HB ?_ ?_
  · exact ⟨fun s v h => does_val rfl rfl (x_load_z ((h.same 6 rfl).trans p410) ((h.far q409 b478.lt (nin1 n416.symm)).trans b478)) (f489.mono h.mono),
      fun s v h => does_put_z rfl rfl ((h.same 4 rfl).trans p382) (h.dep 0 rfl).shape (h.mono.ok _ _ b477.ok2) h387,
      fun s v h => does_val rfl rfl (x_assign) rfl, trivial⟩
  intro g495 ts v495 hts E495
  simp only [fillL, Nat.reduceAdd, List.setIfInBounds_toArray, List.set_cons_zero, List.set_cons_succ] at hts
  subst hts
  have T496 : Below w.heap.size w v495 := T469.trans E495.below
  have l497 : q368 < v468.heap.size := b475.lt
  have l498 : q374 < v468.heap.size := b476.lt
  have l499 : q381 < v468.heap.size := b477.lt
  have l500 : q409 < v468.heap.size := b478.lt
  have l501 : q417 < v468.heap.size := b479.lt
  have f518 : Cz v495 (g495 0) (fl z u) := E495.facts 0 (by decide)
  have e519 : g495 2 = (.int .i64 0) := E495.facts 2 (by decide)
  obtain ⟨t520, x522, A523, m524, c525, e526, b521⟩ := put_info (E495.facts 1 (by decide)) p382 f518.shape
  have f527 : Cz v495 (.agg #[.bool x522, .slice A523 m524 c525]) (fl z u) := f518.at e526.symm
  refine then_normal ?_
  refine wp_ret ?_
  exact bodyPost_ret (ret_ct rfl p382 b521) rfl ⟨_, rfl, ⟨_, _, rfl, f527, e519⟩, T496⟩

end Go.Proofs.Ytdmahjbjlppeaaa
