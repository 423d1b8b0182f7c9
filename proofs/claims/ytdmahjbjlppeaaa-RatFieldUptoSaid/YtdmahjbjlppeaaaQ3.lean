
/- rat.two and its closures, Add, Sub, Mul, Div, Cmp, Floor, Near. -/
import Derived.Test.YtdmahjbjlppeaaaQ2
namespace Go.Proofs.Ytdmahjbjlppeaaa
open Go.RowKit

set_option maxHeartbeats 4000000 in
set_option maxRecDepth 8000 in
theorem two_okx {w : World} {x : Value} {p q : Int} {N0 : Nat} (h0 : Rz N0 w x p q) {y : Value} {p1 q1 : Int} {N1 : Nat} (h1 : Rz N1 w y p1 q1) {F : FuncId} {cap : Array Value} (dv : (decide (q.sign ≤ 0) || decide (q1.sign ≤ 0)) = false) (hF : ∀ args w, (callFunc F args).run Try.prog w = .ok (.enter F args) w) {P D : Int} (hf : ∀ v, Below w.heap.size w v → Calls Try.prog F cap v (Ret (.pair (.cz P) (.cz D)) v))  : Calls Try.prog 56 #[x, y, .func (.func F) #[] cap] w (Ret (.tup2 (.pair (.cz P) (.cz D)) (.is (.int .i64 0))) w) := by
  obtain ⟨na0, A0, n0, c0, nb0, B0, m0, d0, e0r, hx0, hy0⟩ := Rz.parts h0
  subst e0r
  have la0 := hx0.len
  have lb0 := hy0.len
  obtain ⟨na1, A1, n1, c1, nb1, B1, m1, d1, e1r, hx1, hy1⟩ := Rz.parts h1
  subst e1r
  have la1 := hx1.len
  have lb1 := hy1.len
  have T0 : Below w.heap.size w w := Below.refl _ _
  go_enter Try.func56, Try.ntmps56
  refine wp_seq ?_
  have HB : w.heap.size ≤ w.heap.size := T0.size
  refine wp_plan_seq [.new 4 (some (29, #[.bool na0, .slice A0 n0 c0, .bool nb0, .slice B0 m0 d0])), .new 4 (some (29, #[.bool na1, .slice A1 n1 c1, .bool nb1, .slice B1 m1 d1])), .new 4 (some (29, #[.bool false, .slice none 0 0, .bool false, .slice none 0 0])), .val (.is (.int .i64 0))] [] [] w.heap.size (by kernel_rfl) (by kernel_rfl) trivial HB ?_ ?_
  · exact ⟨fun s v h => does_new rfl rfl (x_box_r (h.same 0 rfl)) (okr _ _ _ _ _ _ _ _) rfl (.inr rfl),
      fun s v h => does_new rfl rfl (x_box_r (h.same 1 rfl)) (okr _ _ _ _ _ _ _ _) rfl (.inr rfl),
      fun s v h => does_new rfl rfl x_alloc_r (okr _ _ _ _ _ _ _ _) rfl (.inr rfl),
      fun s v h => does_val rfl rfl (x_assign) rfl, trivial⟩
  intro g1 ts v1 hts E1
  simp only [fillL, Nat.reduceAdd, List.setIfInBounds_toArray, List.set_cons_zero, List.set_cons_succ] at hts
  subst hts
  have T2 : Below w.heap.size w v1 := T0.trans E1.below
  have f3 := (pair_mono h0 E1.mono)
  have f4 := (pair_mono h1 E1.mono)
  obtain ⟨q6, p7, l8, o9, b10⟩ : ∃ q, g1 0 = .pointer (some ⟨q, 0, none⟩) ∧ w.heap.size ≤ q ∧ OkB v1 q 4 ∧ Bx v1 q 29 #[.bool na0, .slice A0 n0 c0, .bool nb0, .slice B0 m0 d0] := E1.facts 0 (by decide)
  have h11 : w.heap.size ≤ q6 := Nat.le_trans HB l8
  obtain ⟨q12, p13, l14, o15, b16⟩ : ∃ q, g1 1 = .pointer (some ⟨q, 0, none⟩) ∧ w.heap.size ≤ q ∧ OkB v1 q 4 ∧ Bx v1 q 29 #[.bool na1, .slice A1 n1 c1, .bool nb1, .slice B1 m1 d1] := E1.facts 1 (by decide)
  have h17 : w.heap.size ≤ q12 := Nat.le_trans HB l14
  obtain ⟨q19, p20, l21, o22, b23⟩ : ∃ q, g1 2 = .pointer (some ⟨q, 0, none⟩) ∧ w.heap.size ≤ q ∧ OkB v1 q 4 ∧ Bx v1 q 29 #[.bool false, .slice none 0 0, .bool false, .slice none 0 0] := E1.facts 2 (by decide)
  have h25 : w.heap.size ≤ q19 := Nat.le_trans HB l21
  refine then_normal ?_
  refine wp_seq ?_
  refine wp_seq ?_
  have HB : w.heap.size ≤ v1.heap.size := T2.size
  refine wp_plan_seq [.val (.is (.agg #[.bool na0, .slice A0 n0 c0, .bool nb0, .slice B0 m0 d0])), .val (.is (.agg #[.bool na1, .slice A1 n1 c1, .bool nb1, .slice B1 m1 d1])), .new 8 (some (29, #[.bool na0, .slice A0 n0 c0, .bool nb0, .slice B0 m0 d0, .bool na1, .slice A1 n1 c1, .bool nb1, .slice B1 m1 d1])) (some 2), .val (.is (.int .i64 0)), .val (.is (.int .i64 0))] [] [] w.heap.size (by kernel_rfl) (by kernel_rfl) trivial HB ?_ ?_
  · exact ⟨fun s v h => does_val rfl rfl (x_load_r ((h.same 3 rfl).trans p7) ((h.far q6 b10.lt (by simp)).trans b10)) rfl,
      fun s v h => does_val rfl rfl (x_load_r ((h.same 4 rfl).trans p13) ((h.far q12 b16.lt (by simp)).trans b16)) rfl,
      fun s v h => does_row rfl rfl (x_row2 (h.dep 0 rfl) (h.dep 1 rfl)) (okr8 _ _ _ _ _ _ _ _ _ _ _ _ _ _ _ _ ) rfl,
      fun s v h => does_call rfl rfl (x_call1 Try.call41) (valid2_k (h.dep 2 rfl) (pair_mono f3 h.mono) (pair_mono f4 h.mono) dv),
      fun s v h => does_val rfl rfl (x_assign) (h.dep 3 rfl), trivial⟩
  intro g28 ts v28 hts E28
  simp only [fillL, Nat.reduceAdd, List.setIfInBounds_toArray, List.set_cons_zero, List.set_cons_succ] at hts
  subst hts
  have T29 : Below w.heap.size w v28 := T2.trans E28.below
  have l30 : q6 < v1.heap.size := b10.lt
  have l31 : q12 < v1.heap.size := b16.lt
  have l32 : q19 < v1.heap.size := b23.lt
  have b33 : Bx v28 q6 29 #[.bool na0, .slice A0 n0 c0, .bool nb0, .slice B0 m0 d0] := (E28.far q6 b10.lt (by simp)).trans b10
  have b34 : Bx v28 q12 29 #[.bool na1, .slice A1 n1 c1, .bool nb1, .slice B1 m1 d1] := (E28.far q12 b16.lt (by simp)).trans b16
  have b35 : Bx v28 q19 29 #[.bool false, .slice none 0 0, .bool false, .slice none 0 0] := (E28.far q19 b23.lt (by simp)).trans b23
  have e42 : g28 4 = (.int .i64 0) := E28.facts 4 (by decide)
  refine then_normal ?_
  refine wp_seq ?_
  have HB : w.heap.size ≤ v28.heap.size := T29.size
  refine wp_plan_seq [.val (.is (.int .i64 0)), .val (.is (.bool false))] [] [] w.heap.size (by kernel_rfl) (by kernel_rfl) trivial HB ?_ ?_
  · exact ⟨fun s v h => does_val rfl rfl (x_move) ((h.same 8 rfl).trans e42),
      fun s v h => does_val rfl rfl (x_neq_err (h.dep 0 rfl) rfl) rfl, trivial⟩
  intro g43 ts v43 hts E43
  simp only [fillL, Nat.reduceAdd, List.setIfInBounds_toArray, List.set_cons_zero, List.set_cons_succ] at hts
  subst hts
  have T44 : Below w.heap.size w v43 := T29.trans E43.below
  have l45 : q6 < v28.heap.size := b33.lt
  have l46 : q12 < v28.heap.size := b34.lt
  have l47 : q19 < v28.heap.size := b35.lt
  have b48 : Bx v43 q6 29 #[.bool na0, .slice A0 n0 c0, .bool nb0, .slice B0 m0 d0] := (E43.far q6 b33.lt (by simp)).trans b33
  have b49 : Bx v43 q12 29 #[.bool na1, .slice A1 n1 c1, .bool nb1, .slice B1 m1 d1] := (E43.far q12 b34.lt (by simp)).trans b34
  have b50 : Bx v43 q19 29 #[.bool false, .slice none 0 0, .bool false, .slice none 0 0] := (E43.far q19 b35.lt (by simp)).trans b35
  have e55 : g43 1 = (.bool false) := E43.facts 1 (by decide)
  refine then_normal ?_
  refine wp_cond_false e55 ?_
  refine wp_skip ?_
  refine then_normal ?_
  refine wp_seq ?_
  have HB : w.heap.size ≤ v43.heap.size := T44.size
  refine wp_plan_seq [.val (.is (.func (.func F) #[] cap)), .val (.pair (.cz P) (.cz D)), .put 6 18, .val (.is (.int .i64 0))] [6] [q19] w.heap.size (by kernel_rfl) (by kernel_rfl) ⟨p20, b50.lt, (by simp), trivial⟩ HB ?_ ?_
  · exact ⟨fun s v h => does_val rfl rfl (x_move) (h.same 2 rfl),
      fun s v h => does_call rfl rfl (x_callv hF (h.dep 0 rfl)) (hf _ (T44.trans h.below)),
      fun s v h => does_put_r rfl rfl ((h.same 6 rfl).trans p20) (pair_shape (num_cz _) (num_cz _) (h.dep 1 rfl)) (h.mono.ok _ _ b50.ok4) h25,
      fun s v h => does_val rfl rfl (x_assign) rfl, trivial⟩
  intro g56 ts v56 hts E56
  simp only [fillL, Nat.reduceAdd, List.setIfInBounds_toArray, List.set_cons_zero, List.set_cons_succ] at hts
  subst hts
  have T57 : Below w.heap.size w v56 := T44.trans E56.below
  have l58 : q6 < v43.heap.size := b48.lt
  have l59 : q12 < v43.heap.size := b49.lt
  have l60 : q19 < v43.heap.size := b50.lt
  have f67 : ((.pair (.cz P) (.cz D)) : Known).p v56 (g56 1) := E56.facts 1 (by decide)
  have e68 : g56 3 = (.int .i64 0) := E56.facts 3 (by decide)
  obtain ⟨t69, x71, A72, m73, c74, x75, A76, m77, c78, e79, b70⟩ := put_info4 (E56.facts 2 (by decide)) p20 (pair_shape (num_cz _) (num_cz _) f67)
  have f80 : ((.pair (.cz P) (.cz D)) : Known).p v56 (.agg #[.bool x71, .slice A72 m73 c74, .bool x75, .slice A76 m77 c78]) := pair_at f67 e79.symm
  refine then_normal ?_
  refine wp_ret ?_
  exact bodyPost_ret (ret_rt rfl p20 b70) rfl ⟨_, rfl, ⟨_, _, rfl, f80, e68⟩, T57⟩

set_option maxHeartbeats 4000000 in
set_option maxRecDepth 8000 in
theorem two_badx {w : World} {x : Value} {p q : Int} {N0 : Nat} (h0 : Rz N0 w x p q) {y : Value} {p1 q1 : Int} {N1 : Nat} (h1 : Rz N1 w y p1 q1) {F : FuncId} {cap : Array Value} (dv : (decide (q.sign ≤ 0) || decide (q1.sign ≤ 0)) = true)  : Calls Try.prog 56 #[x, y, .func (.func F) #[] cap] w (Ret (.tup2 (.pair (.cz 0) (.cz 0)) (.is (.int .i64 30))) w) := by
  obtain ⟨na0, A0, n0, c0, nb0, B0, m0, d0, e0r, hx0, hy0⟩ := Rz.parts h0
  subst e0r
  have la0 := hx0.len
  have lb0 := hy0.len
  obtain ⟨na1, A1, n1, c1, nb1, B1, m1, d1, e1r, hx1, hy1⟩ := Rz.parts h1
  subst e1r
  have la1 := hx1.len
  have lb1 := hy1.len
  have T0 : Below w.heap.size w w := Below.refl _ _
  go_enter Try.func56, Try.ntmps56
  refine wp_seq ?_
  have HB : w.heap.size ≤ w.heap.size := T0.size
  refine wp_plan_seq [.new 4 (some (29, #[.bool na0, .slice A0 n0 c0, .bool nb0, .slice B0 m0 d0])), .new 4 (some (29, #[.bool na1, .slice A1 n1 c1, .bool nb1, .slice B1 m1 d1])), .new 4 (some (29, #[.bool false, .slice none 0 0, .bool false, .slice none 0 0])), .val (.is (.int .i64 0))] [] [] w.heap.size (by kernel_rfl) (by kernel_rfl) trivial HB ?_ ?_
  · exact ⟨fun s v h => does_new rfl rfl (x_box_r (h.same 0 rfl)) (okr _ _ _ _ _ _ _ _) rfl (.inr rfl),
      fun s v h => does_new rfl rfl (x_box_r (h.same 1 rfl)) (okr _ _ _ _ _ _ _ _) rfl (.inr rfl),
      fun s v h => does_new rfl rfl x_alloc_r (okr _ _ _ _ _ _ _ _) rfl (.inr rfl),
      fun s v h => does_val rfl rfl (x_assign) rfl, trivial⟩
  intro g81 ts v81 hts E81
  simp only [fillL, Nat.reduceAdd, List.setIfInBounds_toArray, List.set_cons_zero, List.set_cons_succ] at hts
  subst hts
  have T82 : Below w.heap.size w v81 := T0.trans E81.below
  have f83 := (pair_mono h0 E81.mono)
  have f84 := (pair_mono h1 E81.mono)
  obtain ⟨q86, p87, l88, o89, b90⟩ : ∃ q, g81 0 = .pointer (some ⟨q, 0, none⟩) ∧ w.heap.size ≤ q ∧ OkB v81 q 4 ∧ Bx v81 q 29 #[.bool na0, .slice A0 n0 c0, .bool nb0, .slice B0 m0 d0] := E81.facts 0 (by decide)
  have h91 : w.heap.size ≤ q86 := Nat.le_trans HB l88
  obtain ⟨q92, p93, l94, o95, b96⟩ : ∃ q, g81 1 = .pointer (some ⟨q, 0, none⟩) ∧ w.heap.size ≤ q ∧ OkB v81 q 4 ∧ Bx v81 q 29 #[.bool na1, .slice A1 n1 c1, .bool nb1, .slice B1 m1 d1] := E81.facts 1 (by decide)
  have h97 : w.heap.size ≤ q92 := Nat.le_trans HB l94
  obtain ⟨q99, p100, l101, o102, b103⟩ : ∃ q, g81 2 = .pointer (some ⟨q, 0, none⟩) ∧ w.heap.size ≤ q ∧ OkB v81 q 4 ∧ Bx v81 q 29 #[.bool false, .slice none 0 0, .bool false, .slice none 0 0] := E81.facts 2 (by decide)
  have h105 : w.heap.size ≤ q99 := Nat.le_trans HB l101
  refine then_normal ?_
  refine wp_seq ?_
  refine wp_seq ?_
  have HB : w.heap.size ≤ v81.heap.size := T82.size
  refine wp_plan_seq [.val (.is (.agg #[.bool na0, .slice A0 n0 c0, .bool nb0, .slice B0 m0 d0])), .val (.is (.agg #[.bool na1, .slice A1 n1 c1, .bool nb1, .slice B1 m1 d1])), .new 8 (some (29, #[.bool na0, .slice A0 n0 c0, .bool nb0, .slice B0 m0 d0, .bool na1, .slice A1 n1 c1, .bool nb1, .slice B1 m1 d1])) (some 2), .val (.is (.int .i64 30)), .val (.is (.int .i64 30))] [] [] w.heap.size (by kernel_rfl) (by kernel_rfl) trivial HB ?_ ?_
  · exact ⟨fun s v h => does_val rfl rfl (x_load_r ((h.same 3 rfl).trans p87) ((h.far q86 b90.lt (by simp)).trans b90)) rfl,
      fun s v h => does_val rfl rfl (x_load_r ((h.same 4 rfl).trans p93) ((h.far q92 b96.lt (by simp)).trans b96)) rfl,
      fun s v h => does_row rfl rfl (x_row2 (h.dep 0 rfl) (h.dep 1 rfl)) (okr8 _ _ _ _ _ _ _ _ _ _ _ _ _ _ _ _ ) rfl,
      fun s v h => does_call rfl rfl (x_call1 Try.call41) (valid2_k (h.dep 2 rfl) (pair_mono f83 h.mono) (pair_mono f84 h.mono) dv),
      fun s v h => does_val rfl rfl (x_assign) (h.dep 3 rfl), trivial⟩
  intro g108 ts v108 hts E108
  simp only [fillL, Nat.reduceAdd, List.setIfInBounds_toArray, List.set_cons_zero, List.set_cons_succ] at hts
  subst hts
  have T109 : Below w.heap.size w v108 := T82.trans E108.below
  have l110 : q86 < v81.heap.size := b90.lt
  have l111 : q92 < v81.heap.size := b96.lt
  have l112 : q99 < v81.heap.size := b103.lt
  have b113 : Bx v108 q86 29 #[.bool na0, .slice A0 n0 c0, .bool nb0, .slice B0 m0 d0] := (E108.far q86 b90.lt (by simp)).trans b90
  have b114 : Bx v108 q92 29 #[.bool na1, .slice A1 n1 c1, .bool nb1, .slice B1 m1 d1] := (E108.far q92 b96.lt (by simp)).trans b96
  have b115 : Bx v108 q99 29 #[.bool false, .slice none 0 0, .bool false, .slice none 0 0] := (E108.far q99 b103.lt (by simp)).trans b103
  have e122 : g108 4 = (.int .i64 30) := E108.facts 4 (by decide)
  refine then_normal ?_
  refine wp_seq ?_
  have HB : w.heap.size ≤ v108.heap.size := T109.size
  refine wp_plan_seq [.val (.is (.int .i64 30)), .val (.is (.bool true))] [] [] w.heap.size (by kernel_rfl) (by kernel_rfl) trivial HB ?_ ?_
  · exact ⟨fun s v h => does_val rfl rfl (x_move) ((h.same 8 rfl).trans e122),
      fun s v h => does_val rfl rfl (x_neq_err (h.dep 0 rfl) rfl) rfl, trivial⟩
  intro g123 ts v123 hts E123
  simp only [fillL, Nat.reduceAdd, List.setIfInBounds_toArray, List.set_cons_zero, List.set_cons_succ] at hts
  subst hts
  have T124 : Below w.heap.size w v123 := T109.trans E123.below
  have l125 : q86 < v108.heap.size := b113.lt
  have l126 : q92 < v108.heap.size := b114.lt
  have l127 : q99 < v108.heap.size := b115.lt
  have b128 : Bx v123 q86 29 #[.bool na0, .slice A0 n0 c0, .bool nb0, .slice B0 m0 d0] := (E123.far q86 b113.lt (by simp)).trans b113
  have b129 : Bx v123 q92 29 #[.bool na1, .slice A1 n1 c1, .bool nb1, .slice B1 m1 d1] := (E123.far q92 b114.lt (by simp)).trans b114
  have b130 : Bx v123 q99 29 #[.bool false, .slice none 0 0, .bool false, .slice none 0 0] := (E123.far q99 b115.lt (by simp)).trans b115
  have e135 : g123 1 = (.bool true) := E123.facts 1 (by decide)
  refine then_normal ?_
  refine wp_cond_true e135 ?_
  refine wp_seq ?_
  have HB : w.heap.size ≤ v123.heap.size := T124.size
  refine wp_plan_seq [.val (.is (.agg #[.bool false, .slice none 0 0, .bool false, .slice none 0 0])), .val (.is (.int .i64 30)), .put 6 15, .val (.is (.int .i64 30))] [6] [q99] w.heap.size (by kernel_rfl) (by kernel_rfl) ⟨p100, b130.lt, (by simp), trivial⟩ HB ?_ ?_
  · exact ⟨fun s v h => does_val rfl rfl (x_build_r0) rfl,
      fun s v h => does_val rfl rfl (x_move) ((h.same 8 rfl).trans e122),
      fun s v h => does_put_r rfl rfl ((h.same 6 rfl).trans p100) ⟨_, _, _, _, _, _, _, _, (h.dep 0 rfl)⟩ (h.mono.ok _ _ b130.ok4) h105,
      fun s v h => does_val rfl rfl (x_assign) (h.dep 1 rfl), trivial⟩
  intro g136 ts v136 hts E136
  simp only [fillL, Nat.reduceAdd, List.setIfInBounds_toArray, List.set_cons_zero, List.set_cons_succ] at hts
  subst hts
  have T137 : Below w.heap.size w v136 := T124.trans E136.below
  have l138 : q86 < v123.heap.size := b128.lt
  have l139 : q92 < v123.heap.size := b129.lt
  have l140 : q99 < v123.heap.size := b130.lt
  have e146 : g136 0 = (.agg #[.bool false, .slice none 0 0, .bool false, .slice none 0 0]) := E136.facts 0 (by decide)
  have e148 : g136 3 = (.int .i64 30) := E136.facts 3 (by decide)
  obtain ⟨t149, b150⟩ := put_lit (E136.facts 2 (by decide)) p100 e146
  have f151 : ((.pair (.cz 0) (.cz 0)) : Known).p v136 (.agg #[.bool false, .slice none 0 0, .bool false, .slice none 0 0]) := rat_zero _
  refine then_normal ?_
  refine wp_ret ?_
  exact bodyPost_ret (ret_rt rfl p100 b150) rfl ⟨_, rfl, ⟨_, _, rfl, f151, e148⟩, T137⟩

theorem two_ok {w : World} {x y z : Value} {p q p1 q1 P D : Int} {N0 N1 : Nat} {F : FuncId} {cap : Array Value} (e : z = .func (.func F) #[] cap) (h0 : Rz N0 w x p q) (h1 : Rz N1 w y p1 q1) (dv : (decide (q.sign ≤ 0) || decide (q1.sign ≤ 0)) = false)
    (hF : ∀ args w, (callFunc F args).run Try.prog w = .ok (.enter F args) w) (hf : ∀ v, Below w.heap.size w v → Calls Try.prog F cap v (Ret (.pair (.cz P) (.cz D)) v)) : Calls Try.prog 56 #[x, y, z] w (Ret (.tup2 (.pair (.cz P) (.cz D)) (.is (.int .i64 0))) w) := by
  subst e
  exact two_okx h0 h1 dv hF hf
theorem two_bad {w : World} {x y z : Value} {p q p1 q1 : Int} {N0 N1 : Nat} {F : FuncId} {cap : Array Value} (e : z = .func (.func F) #[] cap) (h0 : Rz N0 w x p q) (h1 : Rz N1 w y p1 q1) (dv : (decide (q.sign ≤ 0) || decide (q1.sign ≤ 0)) = true) :
    Calls Try.prog 56 #[x, y, z] w (Ret (.tup2 (.pair (.cz 0) (.cz 0)) (.is (.int .i64 30))) w) := by
  subst e
  exact two_badx h0 h1 dv

set_option maxHeartbeats 4000000 in
set_option maxRecDepth 8000 in
theorem clo_Add {w : World} {g0 g1 : Nat} {ty0 ty1 : TypeId} {b s b2 s2 u v u2 v2 : Value} {p q p1 q1 : Int} {N0 N1 : Nat} (hb0 : Bx w g0 ty0 #[b, s, b2, s2]) (hb1 : Bx w g1 ty1 #[u, v, u2, v2]) (h0 : Rz N0 w (.agg #[b, s, b2, s2]) p q) (h1 : Rz N1 w (.agg #[u, v, u2, v2]) p1 q1) (hN0 : N0 ≤ 100000000) (hN1 : N1 ≤ 100000000) (hq : q ≠ 0) (hq1 : q1 ≠ 0)  : Calls Try.prog 57 #[.pointer (some ⟨g0, 0, none⟩), .pointer (some ⟨g1, 0, none⟩)] w (Ret (.pair (.cz (rn ((p * q1) + (p1 * q)) (q * q1))) (.cz (rd ((p * q1) + (p1 * q)) (q * q1)))) w) := by
  have la0 : (digs p.natAbs).length ≤ N0 := Az.len (pair_fst h0)
  have lb0 : (digs q.natAbs).length ≤ N0 := Az.len (pair_snd h0)
  have la1 : (digs p1.natAbs).length ≤ N1 := Az.len (pair_fst h1)
  have lb1 : (digs q1.natAbs).length ≤ N1 := Az.len (pair_snd h1)
  have T0 : Below w.heap.size w w := Below.refl _ _
  go_enter Try.func57, Try.ntmps57
  refine wp_seq ?_
  have HB : w.heap.size ≤ w.heap.size := T0.size
  refine wp_plan_seq [.new 4 (some (29, #[.bool false, .slice none 0 0, .bool false, .slice none 0 0]))] [] [] w.heap.size (by kernel_rfl) (by kernel_rfl) trivial HB ?_ ?_
  · exact ⟨fun s v h => does_new rfl rfl x_alloc_r (okr _ _ _ _ _ _ _ _) rfl (.inr rfl), trivial⟩
  intro g152 ts v152 hts E152
  simp only [fillL, List.setIfInBounds_toArray, List.set_cons_zero, List.set_cons_succ] at hts
  subst hts
  have T153 : Below w.heap.size w v152 := T0.trans E152.below
  have l154 : g0 < w.heap.size := hb0.lt
  have l155 : g1 < w.heap.size := hb1.lt
  have b156 : Bx v152 g0 ty0 #[b, s, b2, s2] := (E152.far g0 hb0.lt (by simp)).trans hb0
  have b157 : Bx v152 g1 ty1 #[u, v, u2, v2] := (E152.far g1 hb1.lt (by simp)).trans hb1
  have f158 := (pair_mono h0 E152.mono)
  have f159 := (pair_mono h1 E152.mono)
  obtain ⟨q160, p161, l162, o163, b164⟩ : ∃ q, g152 0 = .pointer (some ⟨q, 0, none⟩) ∧ w.heap.size ≤ q ∧ OkB v152 q 4 ∧ Bx v152 q 29 #[.bool false, .slice none 0 0, .bool false, .slice none 0 0] := E152.facts 0 (by decide)
  have h166 : w.heap.size ≤ q160 := Nat.le_trans HB l162
  have n167 : g0 ≠ q160 := by omega
  have n168 : g1 ≠ q160 := by omega
  refine then_normal ?_
  refine wp_seq ?_
  have HB : w.heap.size ≤ v152.heap.size := T153.size
  refine wp_plan_any [.val (.is (.pointer (some ⟨g0, 0, none⟩))), .val (.az N0 p), .val (.is (.pointer (some ⟨g1, 2, none⟩))), .val (.az N1 q1), .val (.cz (p * q1)), .val (.is (.pointer (some ⟨g1, 0, none⟩))), .val (.az N1 p1), .val (.is (.pointer (some ⟨g0, 2, none⟩))), .val (.az N0 q), .val (.cz (p1 * q)), .val (.cz ((p * q1) + (p1 * q))), .val (.is (.pointer (some ⟨g0, 2, none⟩))), .val (.az N0 q), .val (.is (.pointer (some ⟨g1, 2, none⟩))), .val (.az N1 q1), .val (.cz (q * q1)), .val (.pair (.cz (rn ((p * q1) + (p1 * q)) (q * q1))) (.cz (rd ((p * q1) + (p1 * q)) (q * q1)))), .put 2 19] [2] [q160] w.heap.size (by kernel_rfl) (by kernel_rfl) (by kernel_rfl) ⟨p161, b164.lt, (by simp), trivial⟩ HB ?_ ?_
  · exact ⟨fun s v h => does_val rfl rfl (x_fld_r0 ((h.same 0 rfl).trans rfl)) rfl,
      fun s v h => does_val rfl rfl (x_load_r0 (h.dep 0 rfl) ((h.far g0 b156.lt (nin1 n167)).trans b156)) (pair_fst (pair_mono f158 ((Mono.drew _).trans h.mono))),
      fun s v h => does_val rfl rfl (x_fld_r1 ((h.same 1 rfl).trans rfl)) rfl,
      fun s v h => does_val rfl rfl (x_load_r1 (h.dep 2 rfl) ((h.far g1 b157.lt (nin1 n168)).trans b157)) (pair_snd (pair_mono f159 ((Mono.drew _).trans h.mono))),
      fun s v h => does_call rfl rfl (x_call2 Try.call55) (mul_k (h.dep 1 rfl) (h.dep 3 rfl) (by omega) (by omega)),
      fun s v h => does_val rfl rfl (x_fld_r0 ((h.same 1 rfl).trans rfl)) rfl,
      fun s v h => does_val rfl rfl (x_load_r0 (h.dep 5 rfl) ((h.far g1 b157.lt (nin1 n168)).trans b157)) (pair_fst (pair_mono f159 ((Mono.drew _).trans h.mono))),
      fun s v h => does_val rfl rfl (x_fld_r1 ((h.same 0 rfl).trans rfl)) rfl,
      fun s v h => does_val rfl rfl (x_load_r1 (h.dep 7 rfl) ((h.far g0 b156.lt (nin1 n167)).trans b156)) (pair_snd (pair_mono f158 ((Mono.drew _).trans h.mono))),
      fun s v h => does_call rfl rfl (x_call2 Try.call55) (mul_k (h.dep 6 rfl) (h.dep 8 rfl) (by omega) (by omega)),
      fun s v h => does_call rfl rfl (x_call2 Try.call58) (add_k ((h.dep 4 rfl).az (N := (N0 + N1)) (len_mul la0 lb1)) ((h.dep 9 rfl).az (N := (N1 + N0)) (len_mul la1 lb0)) (by omega) (by omega)),
      fun s v h => does_val rfl rfl (x_fld_r1 ((h.same 0 rfl).trans rfl)) rfl,
      fun s v h => does_val rfl rfl (x_load_r1 (h.dep 11 rfl) ((h.far g0 b156.lt (nin1 n167)).trans b156)) (pair_snd (pair_mono f158 ((Mono.drew _).trans h.mono))),
      fun s v h => does_val rfl rfl (x_fld_r1 ((h.same 1 rfl).trans rfl)) rfl,
      fun s v h => does_val rfl rfl (x_load_r1 (h.dep 13 rfl) ((h.far g1 b157.lt (nin1 n168)).trans b157)) (pair_snd (pair_mono f159 ((Mono.drew _).trans h.mono))),
      fun s v h => does_call rfl rfl (x_call2 Try.call55) (mul_k (h.dep 12 rfl) (h.dep 14 rfl) (by omega) (by omega)),
      fun s v h => does_call rfl rfl (x_call2 Try.call44) (qmade_k ((h.dep 10 rfl).az (N := (max (N0 + N1) (N1 + N0) + 1)) (len_add' (n := (max (N0 + N1) (N1 + N0) + 1)) (len_mul la0 lb1) (len_mul la1 lb0) (by omega) (by omega))) ((h.dep 15 rfl).az (N := (N0 + N1)) (len_mul lb0 lb1)) (by omega) (by omega) (Int.mul_ne_zero hq hq1)),
      fun s v h => does_put_r rfl rfl ((h.same 2 rfl).trans p161) (pair_shape (num_cz _) (num_cz _) (h.dep 16 rfl)) (((Mono.drew _).trans h.mono).ok _ _ b164.ok4) h166, trivial⟩
  intro g169 ts v169 hts E169
  simp only [fillL, Nat.reduceAdd, List.setIfInBounds_toArray, List.set_cons_zero, List.set_cons_succ] at hts
  subst hts
  have T170 : Below w.heap.size w v169 := (below_toDrew T153).trans E169.below
  have l171 : g0 < v152.heap.size := b156.lt
  have l172 : g1 < v152.heap.size := b157.lt
  have l173 : q160 < v152.heap.size := b164.lt
  have f189 : ((.pair (.cz (rn ((p * q1) + (p1 * q)) (q * q1))) (.cz (rd ((p * q1) + (p1 * q)) (q * q1)))) : Known).p v169 (g169 16) := E169.facts 16 (by decide)
  obtain ⟨t190, x192, A193, m194, c195, x196, A197, m198, c199, e200, b191⟩ := put_info4 (E169.facts 17 (by decide)) p161 (pair_shape (num_cz _) (num_cz _) f189)
  have f201 : ((.pair (.cz (rn ((p * q1) + (p1 * q)) (q * q1))) (.cz (rd ((p * q1) + (p1 * q)) (q * q1)))) : Known).p v169 (.agg #[.bool x192, .slice A193 m194 c195, .bool x196, .slice A197 m198 c199]) := pair_at f189 e200.symm
  refine then_normal ?_
  refine wp_ret ?_
  exact bodyPost_ret (ret_r rfl p161 b191) rfl ⟨_, rfl, f201, T170⟩

set_option maxHeartbeats 4000000 in
set_option maxRecDepth 8000 in
theorem clo_Sub {w : World} {g0 g1 : Nat} {ty0 ty1 : TypeId} {b s b2 s2 u v u2 v2 : Value} {p q p1 q1 : Int} {N0 N1 : Nat} (hb0 : Bx w g0 ty0 #[b, s, b2, s2]) (hb1 : Bx w g1 ty1 #[u, v, u2, v2]) (h0 : Rz N0 w (.agg #[b, s, b2, s2]) p q) (h1 : Rz N1 w (.agg #[u, v, u2, v2]) p1 q1) (hN0 : N0 ≤ 100000000) (hN1 : N1 ≤ 100000000) (hq : q ≠ 0) (hq1 : q1 ≠ 0)  : Calls Try.prog 59 #[.pointer (some ⟨g0, 0, none⟩), .pointer (some ⟨g1, 0, none⟩)] w (Ret (.pair (.cz (rn ((p * q1) - (p1 * q)) (q * q1))) (.cz (rd ((p * q1) - (p1 * q)) (q * q1)))) w) := by
  have la0 : (digs p.natAbs).length ≤ N0 := Az.len (pair_fst h0)
  have lb0 : (digs q.natAbs).length ≤ N0 := Az.len (pair_snd h0)
  have la1 : (digs p1.natAbs).length ≤ N1 := Az.len (pair_fst h1)
  have lb1 : (digs q1.natAbs).length ≤ N1 := Az.len (pair_snd h1)
  have T0 : Below w.heap.size w w := Below.refl _ _
  go_enter Try.func59, Try.ntmps59
  refine wp_seq ?_
  have HB : w.heap.size ≤ w.heap.size := T0.size
  refine wp_plan_seq [.new 4 (some (29, #[.bool false, .slice none 0 0, .bool false, .slice none 0 0]))] [] [] w.heap.size (by kernel_rfl) (by kernel_rfl) trivial HB ?_ ?_
  · exact ⟨fun s v h => does_new rfl rfl x_alloc_r (okr _ _ _ _ _ _ _ _) rfl (.inr rfl), trivial⟩
  intro g202 ts v202 hts E202
  simp only [fillL, List.setIfInBounds_toArray, List.set_cons_zero, List.set_cons_succ] at hts
  subst hts
  have T203 : Below w.heap.size w v202 := T0.trans E202.below
  have l204 : g0 < w.heap.size := hb0.lt
  have l205 : g1 < w.heap.size := hb1.lt
  have b206 : Bx v202 g0 ty0 #[b, s, b2, s2] := (E202.far g0 hb0.lt (by simp)).trans hb0
  have b207 : Bx v202 g1 ty1 #[u, v, u2, v2] := (E202.far g1 hb1.lt (by simp)).trans hb1
  have f208 := (pair_mono h0 E202.mono)
  have f209 := (pair_mono h1 E202.mono)
  obtain ⟨q210, p211, l212, o213, b214⟩ : ∃ q, g202 0 = .pointer (some ⟨q, 0, none⟩) ∧ w.heap.size ≤ q ∧ OkB v202 q 4 ∧ Bx v202 q 29 #[.bool false, .slice none 0 0, .bool false, .slice none 0 0] := E202.facts 0 (by decide)
  have h216 : w.heap.size ≤ q210 := Nat.le_trans HB l212
  have n217 : g0 ≠ q210 := by omega
  have n218 : g1 ≠ q210 := by omega
  refine then_normal ?_
  refine wp_seq ?_
  have HB : w.heap.size ≤ v202.heap.size := T203.size
  refine wp_plan_any [.val (.is (.pointer (some ⟨g0, 0, none⟩))), .val (.az N0 p), .val (.is (.pointer (some ⟨g1, 2, none⟩))), .val (.az N1 q1), .val (.cz (p * q1)), .val (.is (.pointer (some ⟨g1, 0, none⟩))), .val (.az N1 p1), .val (.is (.pointer (some ⟨g0, 2, none⟩))), .val (.az N0 q), .val (.cz (p1 * q)), .val (.cz ((p * q1) - (p1 * q))), .val (.is (.pointer (some ⟨g0, 2, none⟩))), .val (.az N0 q), .val (.is (.pointer (some ⟨g1, 2, none⟩))), .val (.az N1 q1), .val (.cz (q * q1)), .val (.pair (.cz (rn ((p * q1) - (p1 * q)) (q * q1))) (.cz (rd ((p * q1) - (p1 * q)) (q * q1)))), .put 2 19] [2] [q210] w.heap.size (by kernel_rfl) (by kernel_rfl) (by kernel_rfl) ⟨p211, b214.lt, (by simp), trivial⟩ HB ?_ ?_
  · exact ⟨fun s v h => does_val rfl rfl (x_fld_r0 ((h.same 0 rfl).trans rfl)) rfl,
      fun s v h => does_val rfl rfl (x_load_r0 (h.dep 0 rfl) ((h.far g0 b206.lt (nin1 n217)).trans b206)) (pair_fst (pair_mono f208 ((Mono.drew _).trans h.mono))),
      fun s v h => does_val rfl rfl (x_fld_r1 ((h.same 1 rfl).trans rfl)) rfl,
      fun s v h => does_val rfl rfl (x_load_r1 (h.dep 2 rfl) ((h.far g1 b207.lt (nin1 n218)).trans b207)) (pair_snd (pair_mono f209 ((Mono.drew _).trans h.mono))),
      fun s v h => does_call rfl rfl (x_call2 Try.call55) (mul_k (h.dep 1 rfl) (h.dep 3 rfl) (by omega) (by omega)),
      fun s v h => does_val rfl rfl (x_fld_r0 ((h.same 1 rfl).trans rfl)) rfl,
      fun s v h => does_val rfl rfl (x_load_r0 (h.dep 5 rfl) ((h.far g1 b207.lt (nin1 n218)).trans b207)) (pair_fst (pair_mono f209 ((Mono.drew _).trans h.mono))),
      fun s v h => does_val rfl rfl (x_fld_r1 ((h.same 0 rfl).trans rfl)) rfl,
      fun s v h => does_val rfl rfl (x_load_r1 (h.dep 7 rfl) ((h.far g0 b206.lt (nin1 n217)).trans b206)) (pair_snd (pair_mono f208 ((Mono.drew _).trans h.mono))),
      fun s v h => does_call rfl rfl (x_call2 Try.call55) (mul_k (h.dep 6 rfl) (h.dep 8 rfl) (by omega) (by omega)),
      fun s v h => does_call rfl rfl (x_call2 Try.call60) (sub_k ((h.dep 4 rfl).az (N := (N0 + N1)) (len_mul la0 lb1)) ((h.dep 9 rfl).az (N := (N1 + N0)) (len_mul la1 lb0)) (by omega) (by omega)),
      fun s v h => does_val rfl rfl (x_fld_r1 ((h.same 0 rfl).trans rfl)) rfl,
      fun s v h => does_val rfl rfl (x_load_r1 (h.dep 11 rfl) ((h.far g0 b206.lt (nin1 n217)).trans b206)) (pair_snd (pair_mono f208 ((Mono.drew _).trans h.mono))),
      fun s v h => does_val rfl rfl (x_fld_r1 ((h.same 1 rfl).trans rfl)) rfl,
      fun s v h => does_val rfl rfl (x_load_r1 (h.dep 13 rfl) ((h.far g1 b207.lt (nin1 n218)).trans b207)) (pair_snd (pair_mono f209 ((Mono.drew _).trans h.mono))),
      fun s v h => does_call rfl rfl (x_call2 Try.call55) (mul_k (h.dep 12 rfl) (h.dep 14 rfl) (by omega) (by omega)),
      fun s v h => does_call rfl rfl (x_call2 Try.call44) (qmade_k ((h.dep 10 rfl).az (N := (max (N0 + N1) (N1 + N0) + 1)) (len_sub' (n := (max (N0 + N1) (N1 + N0) + 1)) (len_mul la0 lb1) (len_mul la1 lb0) (by omega) (by omega))) ((h.dep 15 rfl).az (N := (N0 + N1)) (len_mul lb0 lb1)) (by omega) (by omega) (Int.mul_ne_zero hq hq1)),
      fun s v h => does_put_r rfl rfl ((h.same 2 rfl).trans p211) (pair_shape (num_cz _) (num_cz _) (h.dep 16 rfl)) (((Mono.drew _).trans h.mono).ok _ _ b214.ok4) h216, trivial⟩
  intro g219 ts v219 hts E219
  simp only [fillL, Nat.reduceAdd, List.setIfInBounds_toArray, List.set_cons_zero, List.set_cons_succ] at hts
  subst hts
  have T220 : Below w.heap.size w v219 := (below_toDrew T203).trans E219.below
  have l221 : g0 < v202.heap.size := b206.lt
  have l222 : g1 < v202.heap.size := b207.lt
  have l223 : q210 < v202.heap.size := b214.lt
  have f239 : ((.pair (.cz (rn ((p * q1) - (p1 * q)) (q * q1))) (.cz (rd ((p * q1) - (p1 * q)) (q * q1)))) : Known).p v219 (g219 16) := E219.facts 16 (by decide)
  obtain ⟨t240, x242, A243, m244, c245, x246, A247, m248, c249, e250, b241⟩ := put_info4 (E219.facts 17 (by decide)) p211 (pair_shape (num_cz _) (num_cz _) f239)
  have f251 : ((.pair (.cz (rn ((p * q1) - (p1 * q)) (q * q1))) (.cz (rd ((p * q1) - (p1 * q)) (q * q1)))) : Known).p v219 (.agg #[.bool x242, .slice A243 m244 c245, .bool x246, .slice A247 m248 c249]) := pair_at f239 e250.symm
  refine then_normal ?_
  refine wp_ret ?_
  exact bodyPost_ret (ret_r rfl p211 b241) rfl ⟨_, rfl, f251, T220⟩

set_option maxHeartbeats 4000000 in
set_option maxRecDepth 8000 in
theorem clo_Mul {w : World} {g0 g1 : Nat} {ty0 ty1 : TypeId} {b s b2 s2 u v u2 v2 : Value} {p q p1 q1 : Int} {N0 N1 : Nat} (hb0 : Bx w g0 ty0 #[b, s, b2, s2]) (hb1 : Bx w g1 ty1 #[u, v, u2, v2]) (h0 : Rz N0 w (.agg #[b, s, b2, s2]) p q) (h1 : Rz N1 w (.agg #[u, v, u2, v2]) p1 q1) (hN0 : N0 ≤ 100000000) (hN1 : N1 ≤ 100000000) (hq : q ≠ 0) (hq1 : q1 ≠ 0)  : Calls Try.prog 64 #[.pointer (some ⟨g0, 0, none⟩), .pointer (some ⟨g1, 0, none⟩)] w (Ret (.pair (.cz (rn (p * p1) (q * q1))) (.cz (rd (p * p1) (q * q1)))) w) := by
  have la0 : (digs p.natAbs).length ≤ N0 := Az.len (pair_fst h0)
  have lb0 : (digs q.natAbs).length ≤ N0 := Az.len (pair_snd h0)
  have la1 : (digs p1.natAbs).length ≤ N1 := Az.len (pair_fst h1)
  have lb1 : (digs q1.natAbs).length ≤ N1 := Az.len (pair_snd h1)
  have T0 : Below w.heap.size w w := Below.refl _ _
  go_enter Try.func64, Try.ntmps64
  refine wp_seq ?_
  have HB : w.heap.size ≤ w.heap.size := T0.size
  refine wp_plan_seq [.new 4 (some (29, #[.bool false, .slice none 0 0, .bool false, .slice none 0 0]))] [] [] w.heap.size (by kernel_rfl) (by kernel_rfl) trivial HB ?_ ?_
  · exact ⟨fun s v h => does_new rfl rfl x_alloc_r (okr _ _ _ _ _ _ _ _) rfl (.inr rfl), trivial⟩
  intro g252 ts v252 hts E252
  simp only [fillL, List.setIfInBounds_toArray, List.set_cons_zero, List.set_cons_succ] at hts
  subst hts
  have T253 : Below w.heap.size w v252 := T0.trans E252.below
  have l254 : g0 < w.heap.size := hb0.lt
  have l255 : g1 < w.heap.size := hb1.lt
  have b256 : Bx v252 g0 ty0 #[b, s, b2, s2] := (E252.far g0 hb0.lt (by simp)).trans hb0
  have b257 : Bx v252 g1 ty1 #[u, v, u2, v2] := (E252.far g1 hb1.lt (by simp)).trans hb1
  have f258 := (pair_mono h0 E252.mono)
  have f259 := (pair_mono h1 E252.mono)
  obtain ⟨q260, p261, l262, o263, b264⟩ : ∃ q, g252 0 = .pointer (some ⟨q, 0, none⟩) ∧ w.heap.size ≤ q ∧ OkB v252 q 4 ∧ Bx v252 q 29 #[.bool false, .slice none 0 0, .bool false, .slice none 0 0] := E252.facts 0 (by decide)
  have h266 : w.heap.size ≤ q260 := Nat.le_trans HB l262
  have n267 : g0 ≠ q260 := by omega
  have n268 : g1 ≠ q260 := by omega
  refine then_normal ?_
  refine wp_seq ?_
  have HB : w.heap.size ≤ v252.heap.size := T253.size
  refine wp_plan_any [.val (.is (.pointer (some ⟨g0, 0, none⟩))), .val (.az N0 p), .val (.is (.pointer (some ⟨g1, 0, none⟩))), .val (.az N1 p1), .val (.cz (p * p1)), .val (.is (.pointer (some ⟨g0, 2, none⟩))), .val (.az N0 q), .val (.is (.pointer (some ⟨g1, 2, none⟩))), .val (.az N1 q1), .val (.cz (q * q1)), .val (.pair (.cz (rn (p * p1) (q * q1))) (.cz (rd (p * p1) (q * q1)))), .put 2 13] [2] [q260] w.heap.size (by kernel_rfl) (by kernel_rfl) (by kernel_rfl) ⟨p261, b264.lt, (by simp), trivial⟩ HB ?_ ?_
  · exact ⟨fun s v h => does_val rfl rfl (x_fld_r0 ((h.same 0 rfl).trans rfl)) rfl,
      fun s v h => does_val rfl rfl (x_load_r0 (h.dep 0 rfl) ((h.far g0 b256.lt (nin1 n267)).trans b256)) (pair_fst (pair_mono f258 ((Mono.drew _).trans h.mono))),
      fun s v h => does_val rfl rfl (x_fld_r0 ((h.same 1 rfl).trans rfl)) rfl,
      fun s v h => does_val rfl rfl (x_load_r0 (h.dep 2 rfl) ((h.far g1 b257.lt (nin1 n268)).trans b257)) (pair_fst (pair_mono f259 ((Mono.drew _).trans h.mono))),
      fun s v h => does_call rfl rfl (x_call2 Try.call55) (mul_k (h.dep 1 rfl) (h.dep 3 rfl) (by omega) (by omega)),
      fun s v h => does_val rfl rfl (x_fld_r1 ((h.same 0 rfl).trans rfl)) rfl,
      fun s v h => does_val rfl rfl (x_load_r1 (h.dep 5 rfl) ((h.far g0 b256.lt (nin1 n267)).trans b256)) (pair_snd (pair_mono f258 ((Mono.drew _).trans h.mono))),
      fun s v h => does_val rfl rfl (x_fld_r1 ((h.same 1 rfl).trans rfl)) rfl,
      fun s v h => does_val rfl rfl (x_load_r1 (h.dep 7 rfl) ((h.far g1 b257.lt (nin1 n268)).trans b257)) (pair_snd (pair_mono f259 ((Mono.drew _).trans h.mono))),
      fun s v h => does_call rfl rfl (x_call2 Try.call55) (mul_k (h.dep 6 rfl) (h.dep 8 rfl) (by omega) (by omega)),
      fun s v h => does_call rfl rfl (x_call2 Try.call44) (qmade_k ((h.dep 4 rfl).az (N := (N0 + N1)) (len_mul la0 la1)) ((h.dep 9 rfl).az (N := (N0 + N1)) (len_mul lb0 lb1)) (by omega) (by omega) (Int.mul_ne_zero hq hq1)),
      fun s v h => does_put_r rfl rfl ((h.same 2 rfl).trans p261) (pair_shape (num_cz _) (num_cz _) (h.dep 10 rfl)) (((Mono.drew _).trans h.mono).ok _ _ b264.ok4) h266, trivial⟩
  intro g269 ts v269 hts E269
  simp only [fillL, Nat.reduceAdd, List.setIfInBounds_toArray, List.set_cons_zero, List.set_cons_succ] at hts
  subst hts
  have T270 : Below w.heap.size w v269 := (below_toDrew T253).trans E269.below
  have l271 : g0 < v252.heap.size := b256.lt
  have l272 : g1 < v252.heap.size := b257.lt
  have l273 : q260 < v252.heap.size := b264.lt
  have f285 : ((.pair (.cz (rn (p * p1) (q * q1))) (.cz (rd (p * p1) (q * q1)))) : Known).p v269 (g269 10) := E269.facts 10 (by decide)
  obtain ⟨t286, x288, A289, m290, c291, x292, A293, m294, c295, e296, b287⟩ := put_info4 (E269.facts 11 (by decide)) p261 (pair_shape (num_cz _) (num_cz _) f285)
  have f297 : ((.pair (.cz (rn (p * p1) (q * q1))) (.cz (rd (p * p1) (q * q1)))) : Known).p v269 (.agg #[.bool x288, .slice A289 m290 c291, .bool x292, .slice A293 m294 c295]) := pair_at f285 e296.symm
  refine then_normal ?_
  refine wp_ret ?_
  exact bodyPost_ret (ret_r rfl p261 b287) rfl ⟨_, rfl, f297, T270⟩

set_option maxHeartbeats 4000000 in
set_option maxRecDepth 8000 in
theorem qadd_k {w : World} {x : Value} {p q : Int} {N0 : Nat} (h0 : Rz N0 w x p q) {y : Value} {p1 q1 : Int} {N1 : Nat} (h1 : Rz N1 w y p1 q1) (hN0 : N0 ≤ 100000000) (hN1 : N1 ≤ 100000000) (hq : q ≠ 0) (hq1 : q1 ≠ 0) (dv : (decide (q.sign ≤ 0) || decide (q1.sign ≤ 0)) = false)  : Calls Try.prog 23 #[x, y] w (Ret (.tup2 (.pair (.cz (rn ((p * q1) + (p1 * q)) (q * q1))) (.cz (rd ((p * q1) + (p1 * q)) (q * q1)))) (.is (.int .i64 0))) w) := by
  obtain ⟨na0, A0, n0, c0, nb0, B0, m0, d0, e0r, hx0, hy0⟩ := Rz.parts h0
  subst e0r
  have la0 := hx0.len
  have lb0 := hy0.len
  obtain ⟨na1, A1, n1, c1, nb1, B1, m1, d1, e1r, hx1, hy1⟩ := Rz.parts h1
  subst e1r
  have la1 := hx1.len
  have lb1 := hy1.len
  have T0 : Below w.heap.size w w := Below.refl _ _
  go_enter Try.func23, Try.ntmps23
  refine wp_seq ?_
  have HB : w.heap.size ≤ w.heap.size := T0.size
  refine wp_plan_seq [.new 4 (some (29, #[.bool na0, .slice A0 n0 c0, .bool nb0, .slice B0 m0 d0])), .new 4 (some (29, #[.bool na1, .slice A1 n1 c1, .bool nb1, .slice B1 m1 d1])), .new 4 (some (29, #[.bool false, .slice none 0 0, .bool false, .slice none 0 0])), .val (.is (.int .i64 0))] [] [] w.heap.size (by kernel_rfl) (by kernel_rfl) trivial HB ?_ ?_
  · exact ⟨fun s v h => does_new rfl rfl (x_box_r (h.same 0 rfl)) (okr _ _ _ _ _ _ _ _) rfl (.inr rfl),
      fun s v h => does_new rfl rfl (x_box_r (h.same 1 rfl)) (okr _ _ _ _ _ _ _ _) rfl (.inr rfl),
      fun s v h => does_new rfl rfl x_alloc_r (okr _ _ _ _ _ _ _ _) rfl (.inr rfl),
      fun s v h => does_val rfl rfl (x_assign) rfl, trivial⟩
  intro g298 ts v298 hts E298
  simp only [fillL, Nat.reduceAdd, List.setIfInBounds_toArray, List.set_cons_zero, List.set_cons_succ] at hts
  subst hts
  have T299 : Below w.heap.size w v298 := T0.trans E298.below
  have f300 := (pair_mono h0 E298.mono)
  have f301 := (pair_mono h1 E298.mono)
  obtain ⟨q303, p304, l305, o306, b307⟩ : ∃ q, g298 0 = .pointer (some ⟨q, 0, none⟩) ∧ w.heap.size ≤ q ∧ OkB v298 q 4 ∧ Bx v298 q 29 #[.bool na0, .slice A0 n0 c0, .bool nb0, .slice B0 m0 d0] := E298.facts 0 (by decide)
  have h308 : w.heap.size ≤ q303 := Nat.le_trans HB l305
  obtain ⟨q309, p310, l311, o312, b313⟩ : ∃ q, g298 1 = .pointer (some ⟨q, 0, none⟩) ∧ w.heap.size ≤ q ∧ OkB v298 q 4 ∧ Bx v298 q 29 #[.bool na1, .slice A1 n1 c1, .bool nb1, .slice B1 m1 d1] := E298.facts 1 (by decide)
  have h314 : w.heap.size ≤ q309 := Nat.le_trans HB l311
  obtain ⟨q316, p317, l318, o319, b320⟩ : ∃ q, g298 2 = .pointer (some ⟨q, 0, none⟩) ∧ w.heap.size ≤ q ∧ OkB v298 q 4 ∧ Bx v298 q 29 #[.bool false, .slice none 0 0, .bool false, .slice none 0 0] := E298.facts 2 (by decide)
  have h322 : w.heap.size ≤ q316 := Nat.le_trans HB l318
  have n323 : q303 ≠ q316 := E298.apart 0 2 (by decide) (by decide) (by decide) ⟨_, _, _, rfl⟩ ⟨_, _, _, rfl⟩ none _ none _ p304 p317
  have n324 : q309 ≠ q316 := E298.apart 1 2 (by decide) (by decide) (by decide) ⟨_, _, _, rfl⟩ ⟨_, _, _, rfl⟩ none _ none _ p310 p317
  refine then_normal ?_
  refine wp_seq ?_
  have HB : w.heap.size ≤ v298.heap.size := T299.size
  refine wp_plan_seq [.val (.pair (.az N0 p) (.az N0 q)), .val (.pair (.az N1 p1) (.az N1 q1)), .val (.is (.func (.func 57) #[] #[.pointer (some ⟨q303, 0, none⟩), .pointer (some ⟨q309, 0, none⟩)])), .val (.tup2 (.pair (.cz (rn ((p * q1) + (p1 * q)) (q * q1))) (.cz (rd ((p * q1) + (p1 * q)) (q * q1)))) (.is (.int .i64 0))), .val (.pair (.cz (rn ((p * q1) + (p1 * q)) (q * q1))) (.cz (rd ((p * q1) + (p1 * q)) (q * q1)))), .val (.is (.int .i64 0)), .put 4 10, .val (.is (.int .i64 0))] [4] [q316] w.heap.size (by kernel_rfl) (by kernel_rfl) ⟨p317, b320.lt, (by simp), trivial⟩ HB ?_ ?_
  · exact ⟨fun s v h => does_val rfl rfl (x_load_r ((h.same 2 rfl).trans p304) ((h.far q303 b307.lt (nin1 n323)).trans b307)) (pair_mono f300 h.mono),
      fun s v h => does_val rfl rfl (x_load_r ((h.same 3 rfl).trans p310) ((h.far q309 b313.lt (nin1 n324)).trans b313)) (pair_mono f301 h.mono),
      fun s v h => does_val rfl rfl x_func2 (func2_lit ((h.same 2 rfl).trans p304) ((h.same 3 rfl).trans p310)),
      fun s v h => does_call rfl rfl (x_call3 Try.call56) (two_ok (h.dep 2 rfl) (h.dep 0 rfl) (h.dep 1 rfl) dv Try.call57 (fun v hb => clo_Add (Bx.below ((h.far q303 b307.lt (nin1 n323)).trans b307) hb) (Bx.below ((h.far q309 b313.lt (nin1 n324)).trans b313) hb) (pair_mono (pair_mono f300 h.mono) (Mono.below hb)) (pair_mono (pair_mono f301 h.mono) (Mono.below hb)) (by omega) (by omega) hq hq1)),
      fun s v h => by obtain ⟨r0, r1, e, f0, f1⟩ := tup2_at (h.dep 3 rfl); exact does_val rfl rfl (x_ext e rfl) f0,
      fun s v h => by obtain ⟨r0, r1, e, f0, f1⟩ := tup2_at (h.dep 3 rfl); exact does_val rfl rfl (x_ext e rfl) f1,
      fun s v h => does_put_r rfl rfl ((h.same 4 rfl).trans p317) (pair_shape (num_cz _) (num_cz _) (h.dep 4 rfl)) (h.mono.ok _ _ b320.ok4) h322,
      fun s v h => does_val rfl rfl (x_assign) (h.dep 5 rfl), trivial⟩
  intro g325 ts v325 hts E325
  simp only [fillL, Nat.reduceAdd, List.setIfInBounds_toArray, List.set_cons_zero, List.set_cons_succ] at hts
  subst hts
  have T326 : Below w.heap.size w v325 := T299.trans E325.below
  have l327 : q303 < v298.heap.size := b307.lt
  have l328 : q309 < v298.heap.size := b313.lt
  have l329 : q316 < v298.heap.size := b320.lt
  have f338 : ((.pair (.cz (rn ((p * q1) + (p1 * q)) (q * q1))) (.cz (rd ((p * q1) + (p1 * q)) (q * q1)))) : Known).p v325 (g325 4) := E325.facts 4 (by decide)
  have e340 : g325 7 = (.int .i64 0) := E325.facts 7 (by decide)
  obtain ⟨t341, x343, A344, m345, c346, x347, A348, m349, c350, e351, b342⟩ := put_info4 (E325.facts 6 (by decide)) p317 (pair_shape (num_cz _) (num_cz _) f338)
  have f352 : ((.pair (.cz (rn ((p * q1) + (p1 * q)) (q * q1))) (.cz (rd ((p * q1) + (p1 * q)) (q * q1)))) : Known).p v325 (.agg #[.bool x343, .slice A344 m345 c346, .bool x347, .slice A348 m349 c350]) := pair_at f338 e351.symm
  refine then_normal ?_
  refine wp_ret ?_
  exact bodyPost_ret (ret_rt rfl p317 b342) rfl ⟨_, rfl, ⟨_, _, rfl, f352, e340⟩, T326⟩

set_option maxHeartbeats 4000000 in
set_option maxRecDepth 8000 in
theorem qadd_b {w : World} {x : Value} {p q : Int} {N0 : Nat} (h0 : Rz N0 w x p q) {y : Value} {p1 q1 : Int} {N1 : Nat} (h1 : Rz N1 w y p1 q1) (dv : (decide (q.sign ≤ 0) || decide (q1.sign ≤ 0)) = true)  : Calls Try.prog 23 #[x, y] w (Ret (.tup2 (.pair (.cz 0) (.cz 0)) (.is (.int .i64 30))) w) := by
  obtain ⟨na0, A0, n0, c0, nb0, B0, m0, d0, e0r, hx0, hy0⟩ := Rz.parts h0
  subst e0r
  have la0 := hx0.len
  have lb0 := hy0.len
  obtain ⟨na1, A1, n1, c1, nb1, B1, m1, d1, e1r, hx1, hy1⟩ := Rz.parts h1
  subst e1r
  have la1 := hx1.len
  have lb1 := hy1.len
  have T0 : Below w.heap.size w w := Below.refl _ _
  go_enter Try.func23, Try.ntmps23
  refine wp_seq ?_
  have HB : w.heap.size ≤ w.heap.size := T0.size
  refine wp_plan_seq [.new 4 (some (29, #[.bool na0, .slice A0 n0 c0, .bool nb0, .slice B0 m0 d0])), .new 4 (some (29, #[.bool na1, .slice A1 n1 c1, .bool nb1, .slice B1 m1 d1])), .new 4 (some (29, #[.bool false, .slice none 0 0, .bool false, .slice none 0 0])), .val (.is (.int .i64 0))] [] [] w.heap.size (by kernel_rfl) (by kernel_rfl) trivial HB ?_ ?_
  · exact ⟨fun s v h => does_new rfl rfl (x_box_r (h.same 0 rfl)) (okr _ _ _ _ _ _ _ _) rfl (.inr rfl),
      fun s v h => does_new rfl rfl (x_box_r (h.same 1 rfl)) (okr _ _ _ _ _ _ _ _) rfl (.inr rfl),
      fun s v h => does_new rfl rfl x_alloc_r (okr _ _ _ _ _ _ _ _) rfl (.inr rfl),
      fun s v h => does_val rfl rfl (x_assign) rfl, trivial⟩
  intro g353 ts v353 hts E353
  simp only [fillL, Nat.reduceAdd, List.setIfInBounds_toArray, List.set_cons_zero, List.set_cons_succ] at hts
  subst hts
  have T354 : Below w.heap.size w v353 := T0.trans E353.below
  have f355 := (pair_mono h0 E353.mono)
  have f356 := (pair_mono h1 E353.mono)
  obtain ⟨q358, p359, l360, o361, b362⟩ : ∃ q, g353 0 = .pointer (some ⟨q, 0, none⟩) ∧ w.heap.size ≤ q ∧ OkB v353 q 4 ∧ Bx v353 q 29 #[.bool na0, .slice A0 n0 c0, .bool nb0, .slice B0 m0 d0] := E353.facts 0 (by decide)
  have h363 : w.heap.size ≤ q358 := Nat.le_trans HB l360
  obtain ⟨q364, p365, l366, o367, b368⟩ : ∃ q, g353 1 = .pointer (some ⟨q, 0, none⟩) ∧ w.heap.size ≤ q ∧ OkB v353 q 4 ∧ Bx v353 q 29 #[.bool na1, .slice A1 n1 c1, .bool nb1, .slice B1 m1 d1] := E353.facts 1 (by decide)
  have h369 : w.heap.size ≤ q364 := Nat.le_trans HB l366
  obtain ⟨q371, p372, l373, o374, b375⟩ : ∃ q, g353 2 = .pointer (some ⟨q, 0, none⟩) ∧ w.heap.size ≤ q ∧ OkB v353 q 4 ∧ Bx v353 q 29 #[.bool false, .slice none 0 0, .bool false, .slice none 0 0] := E353.facts 2 (by decide)
  have h377 : w.heap.size ≤ q371 := Nat.le_trans HB l373
  have n378 : q358 ≠ q371 := E353.apart 0 2 (by decide) (by decide) (by decide) ⟨_, _, _, rfl⟩ ⟨_, _, _, rfl⟩ none _ none _ p359 p372
  have n379 : q364 ≠ q371 := E353.apart 1 2 (by decide) (by decide) (by decide) ⟨_, _, _, rfl⟩ ⟨_, _, _, rfl⟩ none _ none _ p365 p372
  refine then_normal ?_
  refine wp_seq ?_
  have HB : w.heap.size ≤ v353.heap.size := T354.size
  refine wp_plan_seq [.val (.pair (.az N0 p) (.az N0 q)), .val (.pair (.az N1 p1) (.az N1 q1)), .val (.is (.func (.func 57) #[] #[.pointer (some ⟨q358, 0, none⟩), .pointer (some ⟨q364, 0, none⟩)])), .val (.tup2 (.pair (.cz 0) (.cz 0)) (.is (.int .i64 30))), .val (.pair (.cz 0) (.cz 0)), .val (.is (.int .i64 30)), .put 4 10, .val (.is (.int .i64 30))] [4] [q371] w.heap.size (by kernel_rfl) (by kernel_rfl) ⟨p372, b375.lt, (by simp), trivial⟩ HB ?_ ?_
  · exact ⟨fun s v h => does_val rfl rfl (x_load_r ((h.same 2 rfl).trans p359) ((h.far q358 b362.lt (nin1 n378)).trans b362)) (pair_mono f355 h.mono),
      fun s v h => does_val rfl rfl (x_load_r ((h.same 3 rfl).trans p365) ((h.far q364 b368.lt (nin1 n379)).trans b368)) (pair_mono f356 h.mono),
      fun s v h => does_val rfl rfl x_func2 (func2_lit ((h.same 2 rfl).trans p359) ((h.same 3 rfl).trans p365)),
      fun s v h => does_call rfl rfl (x_call3 Try.call56) (two_bad (h.dep 2 rfl) (h.dep 0 rfl) (h.dep 1 rfl) dv),
      fun s v h => by obtain ⟨r0, r1, e, f0, f1⟩ := tup2_at (h.dep 3 rfl); exact does_val rfl rfl (x_ext e rfl) f0,
      fun s v h => by obtain ⟨r0, r1, e, f0, f1⟩ := tup2_at (h.dep 3 rfl); exact does_val rfl rfl (x_ext e rfl) f1,
      fun s v h => does_put_r rfl rfl ((h.same 4 rfl).trans p372) (pair_shape (num_cz _) (num_cz _) (h.dep 4 rfl)) (h.mono.ok _ _ b375.ok4) h377,
      fun s v h => does_val rfl rfl (x_assign) (h.dep 5 rfl), trivial⟩
  intro g380 ts v380 hts E380
  simp only [fillL, Nat.reduceAdd, List.setIfInBounds_toArray, List.set_cons_zero, List.set_cons_succ] at hts
  subst hts
  have T381 : Below w.heap.size w v380 := T354.trans E380.below
  have l382 : q358 < v353.heap.size := b362.lt
  have l383 : q364 < v353.heap.size := b368.lt
  have l384 : q371 < v353.heap.size := b375.lt
  have f393 : ((.pair (.cz 0) (.cz 0)) : Known).p v380 (g380 4) := E380.facts 4 (by decide)
  have e395 : g380 7 = (.int .i64 30) := E380.facts 7 (by decide)
  obtain ⟨t396, x398, A399, m400, c401, x402, A403, m404, c405, e406, b397⟩ := put_info4 (E380.facts 6 (by decide)) p372 (pair_shape (num_cz _) (num_cz _) f393)
  have f407 : ((.pair (.cz 0) (.cz 0)) : Known).p v380 (.agg #[.bool x398, .slice A399 m400 c401, .bool x402, .slice A403 m404 c405]) := pair_at f393 e406.symm
  refine then_normal ?_
  refine wp_ret ?_
  exact bodyPost_ret (ret_rt rfl p372 b397) rfl ⟨_, rfl, ⟨_, _, rfl, f407, e395⟩, T381⟩

set_option maxHeartbeats 4000000 in
set_option maxRecDepth 8000 in
theorem qsub_k {w : World} {x : Value} {p q : Int} {N0 : Nat} (h0 : Rz N0 w x p q) {y : Value} {p1 q1 : Int} {N1 : Nat} (h1 : Rz N1 w y p1 q1) (hN0 : N0 ≤ 100000000) (hN1 : N1 ≤ 100000000) (hq : q ≠ 0) (hq1 : q1 ≠ 0) (dv : (decide (q.sign ≤ 0) || decide (q1.sign ≤ 0)) = false)  : Calls Try.prog 24 #[x, y] w (Ret (.tup2 (.pair (.cz (rn ((p * q1) - (p1 * q)) (q * q1))) (.cz (rd ((p * q1) - (p1 * q)) (q * q1)))) (.is (.int .i64 0))) w) := by
  obtain ⟨na0, A0, n0, c0, nb0, B0, m0, d0, e0r, hx0, hy0⟩ := Rz.parts h0
  subst e0r
  have la0 := hx0.len
  have lb0 := hy0.len
  obtain ⟨na1, A1, n1, c1, nb1, B1, m1, d1, e1r, hx1, hy1⟩ := Rz.parts h1
  subst e1r
  have la1 := hx1.len
  have lb1 := hy1.len
  have T0 : Below w.heap.size w w := Below.refl _ _
  go_enter Try.func24, Try.ntmps24
  refine wp_seq ?_
  have HB : w.heap.size ≤ w.heap.size := T0.size
  refine wp_plan_seq [.new 4 (some (29, #[.bool na0, .slice A0 n0 c0, .bool nb0, .slice B0 m0 d0])), .new 4 (some (29, #[.bool na1, .slice A1 n1 c1, .bool nb1, .slice B1 m1 d1])), .new 4 (some (29, #[.bool false, .slice none 0 0, .bool false, .slice none 0 0])), .val (.is (.int .i64 0))] [] [] w.heap.size (by kernel_rfl) (by kernel_rfl) trivial HB ?_ ?_
  · exact ⟨fun s v h => does_new rfl rfl (x_box_r (h.same 0 rfl)) (okr _ _ _ _ _ _ _ _) rfl (.inr rfl),
      fun s v h => does_new rfl rfl (x_box_r (h.same 1 rfl)) (okr _ _ _ _ _ _ _ _) rfl (.inr rfl),
      fun s v h => does_new rfl rfl x_alloc_r (okr _ _ _ _ _ _ _ _) rfl (.inr rfl),
      fun s v h => does_val rfl rfl (x_assign) rfl, trivial⟩
  intro g408 ts v408 hts E408
  simp only [fillL, Nat.reduceAdd, List.setIfInBounds_toArray, List.set_cons_zero, List.set_cons_succ] at hts
  subst hts
  have T409 : Below w.heap.size w v408 := T0.trans E408.below
  have f410 := (pair_mono h0 E408.mono)
  have f411 := (pair_mono h1 E408.mono)
  obtain ⟨q413, p414, l415, o416, b417⟩ : ∃ q, g408 0 = .pointer (some ⟨q, 0, none⟩) ∧ w.heap.size ≤ q ∧ OkB v408 q 4 ∧ Bx v408 q 29 #[.bool na0, .slice A0 n0 c0, .bool nb0, .slice B0 m0 d0] := E408.facts 0 (by decide)
  have h418 : w.heap.size ≤ q413 := Nat.le_trans HB l415
  obtain ⟨q419, p420, l421, o422, b423⟩ : ∃ q, g408 1 = .pointer (some ⟨q, 0, none⟩) ∧ w.heap.size ≤ q ∧ OkB v408 q 4 ∧ Bx v408 q 29 #[.bool na1, .slice A1 n1 c1, .bool nb1, .slice B1 m1 d1] := E408.facts 1 (by decide)
  have h424 : w.heap.size ≤ q419 := Nat.le_trans HB l421
  obtain ⟨q426, p427, l428, o429, b430⟩ : ∃ q, g408 2 = .pointer (some ⟨q, 0, none⟩) ∧ w.heap.size ≤ q ∧ OkB v408 q 4 ∧ Bx v408 q 29 #[.bool false, .slice none 0 0, .bool false, .slice none 0 0] := E408.facts 2 (by decide)
  have h432 : w.heap.size ≤ q426 := Nat.le_trans HB l428
  have n433 : q413 ≠ q426 := E408.apart 0 2 (by decide) (by decide) (by decide) ⟨_, _, _, rfl⟩ ⟨_, _, _, rfl⟩ none _ none _ p414 p427
  have n434 : q419 ≠ q426 := E408.apart 1 2 (by decide) (by decide) (by decide) ⟨_, _, _, rfl⟩ ⟨_, _, _, rfl⟩ none _ none _ p420 p427
  refine then_normal ?_
  refine wp_seq ?_
  have HB : w.heap.size ≤ v408.heap.size := T409.size
  refine wp_plan_seq [.val (.pair (.az N0 p) (.az N0 q)), .val (.pair (.az N1 p1) (.az N1 q1)), .val (.is (.func (.func 59) #[] #[.pointer (some ⟨q413, 0, none⟩), .pointer (some ⟨q419, 0, none⟩)])), .val (.tup2 (.pair (.cz (rn ((p * q1) - (p1 * q)) (q * q1))) (.cz (rd ((p * q1) - (p1 * q)) (q * q1)))) (.is (.int .i64 0))), .val (.pair (.cz (rn ((p * q1) - (p1 * q)) (q * q1))) (.cz (rd ((p * q1) - (p1 * q)) (q * q1)))), .val (.is (.int .i64 0)), .put 4 10, .val (.is (.int .i64 0))] [4] [q426] w.heap.size (by kernel_rfl) (by kernel_rfl) ⟨p427, b430.lt, (by simp), trivial⟩ HB ?_ ?_
  · exact ⟨fun s v h => does_val rfl rfl (x_load_r ((h.same 2 rfl).trans p414) ((h.far q413 b417.lt (nin1 n433)).trans b417)) (pair_mono f410 h.mono),
      fun s v h => does_val rfl rfl (x_load_r ((h.same 3 rfl).trans p420) ((h.far q419 b423.lt (nin1 n434)).trans b423)) (pair_mono f411 h.mono),
      fun s v h => does_val rfl rfl x_func2 (func2_lit ((h.same 2 rfl).trans p414) ((h.same 3 rfl).trans p420)),
      fun s v h => does_call rfl rfl (x_call3 Try.call56) (two_ok (h.dep 2 rfl) (h.dep 0 rfl) (h.dep 1 rfl) dv Try.call59 (fun v hb => clo_Sub (Bx.below ((h.far q413 b417.lt (nin1 n433)).trans b417) hb) (Bx.below ((h.far q419 b423.lt (nin1 n434)).trans b423) hb) (pair_mono (pair_mono f410 h.mono) (Mono.below hb)) (pair_mono (pair_mono f411 h.mono) (Mono.below hb)) (by omega) (by omega) hq hq1)),
      fun s v h => by obtain ⟨r0, r1, e, f0, f1⟩ := tup2_at (h.dep 3 rfl); exact does_val rfl rfl (x_ext e rfl) f0,
      fun s v h => by obtain ⟨r0, r1, e, f0, f1⟩ := tup2_at (h.dep 3 rfl); exact does_val rfl rfl (x_ext e rfl) f1,
      fun s v h => does_put_r rfl rfl ((h.same 4 rfl).trans p427) (pair_shape (num_cz _) (num_cz _) (h.dep 4 rfl)) (h.mono.ok _ _ b430.ok4) h432,
      fun s v h => does_val rfl rfl (x_assign) (h.dep 5 rfl), trivial⟩
  intro g435 ts v435 hts E435
  simp only [fillL, Nat.reduceAdd, List.setIfInBounds_toArray, List.set_cons_zero, List.set_cons_succ] at hts
  subst hts
  have T436 : Below w.heap.size w v435 := T409.trans E435.below
  have l437 : q413 < v408.heap.size := b417.lt
  have l438 : q419 < v408.heap.size := b423.lt
  have l439 : q426 < v408.heap.size := b430.lt
  have f448 : ((.pair (.cz (rn ((p * q1) - (p1 * q)) (q * q1))) (.cz (rd ((p * q1) - (p1 * q)) (q * q1)))) : Known).p v435 (g435 4) := E435.facts 4 (by decide)
  have e450 : g435 7 = (.int .i64 0) := E435.facts 7 (by decide)
  obtain ⟨t451, x453, A454, m455, c456, x457, A458, m459, c460, e461, b452⟩ := put_info4 (E435.facts 6 (by decide)) p427 (pair_shape (num_cz _) (num_cz _) f448)
  have f462 : ((.pair (.cz (rn ((p * q1) - (p1 * q)) (q * q1))) (.cz (rd ((p * q1) - (p1 * q)) (q * q1)))) : Known).p v435 (.agg #[.bool x453, .slice A454 m455 c456, .bool x457, .slice A458 m459 c460]) := pair_at f448 e461.symm
  refine then_normal ?_
  refine wp_ret ?_
  exact bodyPost_ret (ret_rt rfl p427 b452) rfl ⟨_, rfl, ⟨_, _, rfl, f462, e450⟩, T436⟩

set_option maxHeartbeats 4000000 in
set_option maxRecDepth 8000 in
theorem qsub_b {w : World} {x : Value} {p q : Int} {N0 : Nat} (h0 : Rz N0 w x p q) {y : Value} {p1 q1 : Int} {N1 : Nat} (h1 : Rz N1 w y p1 q1) (dv : (decide (q.sign ≤ 0) || decide (q1.sign ≤ 0)) = true)  : Calls Try.prog 24 #[x, y] w (Ret (.tup2 (.pair (.cz 0) (.cz 0)) (.is (.int .i64 30))) w) := by
  obtain ⟨na0, A0, n0, c0, nb0, B0, m0, d0, e0r, hx0, hy0⟩ := Rz.parts h0
  subst e0r
  have la0 := hx0.len
  have lb0 := hy0.len
  obtain ⟨na1, A1, n1, c1, nb1, B1, m1, d1, e1r, hx1, hy1⟩ := Rz.parts h1
  subst e1r
  have la1 := hx1.len
  have lb1 := hy1.len
  have T0 : Below w.heap.size w w := Below.refl _ _
  go_enter Try.func24, Try.ntmps24
  refine wp_seq ?_
  have HB : w.heap.size ≤ w.heap.size := T0.size
  refine wp_plan_seq [.new 4 (some (29, #[.bool na0, .slice A0 n0 c0, .bool nb0, .slice B0 m0 d0])), .new 4 (some (29, #[.bool na1, .slice A1 n1 c1, .bool nb1, .slice B1 m1 d1])), .new 4 (some (29, #[.bool false, .slice none 0 0, .bool false, .slice none 0 0])), .val (.is (.int .i64 0))] [] [] w.heap.size (by kernel_rfl) (by kernel_rfl) trivial HB ?_ ?_
  · exact ⟨fun s v h => does_new rfl rfl (x_box_r (h.same 0 rfl)) (okr _ _ _ _ _ _ _ _) rfl (.inr rfl),
      fun s v h => does_new rfl rfl (x_box_r (h.same 1 rfl)) (okr _ _ _ _ _ _ _ _) rfl (.inr rfl),
      fun s v h => does_new rfl rfl x_alloc_r (okr _ _ _ _ _ _ _ _) rfl (.inr rfl),
      fun s v h => does_val rfl rfl (x_assign) rfl, trivial⟩
  intro g463 ts v463 hts E463
  simp only [fillL, Nat.reduceAdd, List.setIfInBounds_toArray, List.set_cons_zero, List.set_cons_succ] at hts
  subst hts
  have T464 : Below w.heap.size w v463 := T0.trans E463.below
  have f465 := (pair_mono h0 E463.mono)
  have f466 := (pair_mono h1 E463.mono)
  obtain ⟨q468, p469, l470, o471, b472⟩ : ∃ q, g463 0 = .pointer (some ⟨q, 0, none⟩) ∧ w.heap.size ≤ q ∧ OkB v463 q 4 ∧ Bx v463 q 29 #[.bool na0, .slice A0 n0 c0, .bool nb0, .slice B0 m0 d0] := E463.facts 0 (by decide)
  have h473 : w.heap.size ≤ q468 := Nat.le_trans HB l470
  obtain ⟨q474, p475, l476, o477, b478⟩ : ∃ q, g463 1 = .pointer (some ⟨q, 0, none⟩) ∧ w.heap.size ≤ q ∧ OkB v463 q 4 ∧ Bx v463 q 29 #[.bool na1, .slice A1 n1 c1, .bool nb1, .slice B1 m1 d1] := E463.facts 1 (by decide)
  have h479 : w.heap.size ≤ q474 := Nat.le_trans HB l476
  obtain ⟨q481, p482, l483, o484, b485⟩ : ∃ q, g463 2 = .pointer (some ⟨q, 0, none⟩) ∧ w.heap.size ≤ q ∧ OkB v463 q 4 ∧ Bx v463 q 29 #[.bool false, .slice none 0 0, .bool false, .slice none 0 0] := E463.facts 2 (by decide)
  have h487 : w.heap.size ≤ q481 := Nat.le_trans HB l483
  have n488 : q468 ≠ q481 := E463.apart 0 2 (by decide) (by decide) (by decide) ⟨_, _, _, rfl⟩ ⟨_, _, _, rfl⟩ none _ none _ p469 p482
  have n489 : q474 ≠ q481 := E463.apart 1 2 (by decide) (by decide) (by decide) ⟨_, _, _, rfl⟩ ⟨_, _, _, rfl⟩ none _ none _ p475 p482
  refine then_normal ?_
  refine wp_seq ?_
  have HB : w.heap.size ≤ v463.heap.size := T464.size
  refine wp_plan_seq [.val (.pair (.az N0 p) (.az N0 q)), .val (.pair (.az N1 p1) (.az N1 q1)), .val (.is (.func (.func 59) #[] #[.pointer (some ⟨q468, 0, none⟩), .pointer (some ⟨q474, 0, none⟩)])), .val (.tup2 (.pair (.cz 0) (.cz 0)) (.is (.int .i64 30))), .val (.pair (.cz 0) (.cz 0)), .val (.is (.int .i64 30)), .put 4 10, .val (.is (.int .i64 30))] [4] [q481] w.heap.size (by kernel_rfl) (by kernel_rfl) ⟨p482, b485.lt, (by simp), trivial⟩ HB ?_ ?_
  · exact ⟨fun s v h => does_val rfl rfl (x_load_r ((h.same 2 rfl).trans p469) ((h.far q468 b472.lt (nin1 n488)).trans b472)) (pair_mono f465 h.mono),
      fun s v h => does_val rfl rfl (x_load_r ((h.same 3 rfl).trans p475) ((h.far q474 b478.lt (nin1 n489)).trans b478)) (pair_mono f466 h.mono),
      fun s v h => does_val rfl rfl x_func2 (func2_lit ((h.same 2 rfl).trans p469) ((h.same 3 rfl).trans p475)),
      fun s v h => does_call rfl rfl (x_call3 Try.call56) (two_bad (h.dep 2 rfl) (h.dep 0 rfl) (h.dep 1 rfl) dv),
      fun s v h => by obtain ⟨r0, r1, e, f0, f1⟩ := tup2_at (h.dep 3 rfl); exact does_val rfl rfl (x_ext e rfl) f0,
      fun s v h => by obtain ⟨r0, r1, e, f0, f1⟩ := tup2_at (h.dep 3 rfl); exact does_val rfl rfl (x_ext e rfl) f1,
      fun s v h => does_put_r rfl rfl ((h.same 4 rfl).trans p482) (pair_shape (num_cz _) (num_cz _) (h.dep 4 rfl)) (h.mono.ok _ _ b485.ok4) h487,
      fun s v h => does_val rfl rfl (x_assign) (h.dep 5 rfl), trivial⟩
  intro g490 ts v490 hts E490
  simp only [fillL, Nat.reduceAdd, List.setIfInBounds_toArray, List.set_cons_zero, List.set_cons_succ] at hts
  subst hts
  have T491 : Below w.heap.size w v490 := T464.trans E490.below
  have l492 : q468 < v463.heap.size := b472.lt
  have l493 : q474 < v463.heap.size := b478.lt
  have l494 : q481 < v463.heap.size := b485.lt
  have f503 : ((.pair (.cz 0) (.cz 0)) : Known).p v490 (g490 4) := E490.facts 4 (by decide)
  have e505 : g490 7 = (.int .i64 30) := E490.facts 7 (by decide)
  obtain ⟨t506, x508, A509, m510, c511, x512, A513, m514, c515, e516, b507⟩ := put_info4 (E490.facts 6 (by decide)) p482 (pair_shape (num_cz _) (num_cz _) f503)
  have f517 : ((.pair (.cz 0) (.cz 0)) : Known).p v490 (.agg #[.bool x508, .slice A509 m510 c511, .bool x512, .slice A513 m514 c515]) := pair_at f503 e516.symm
  refine then_normal ?_
  refine wp_ret ?_
  exact bodyPost_ret (ret_rt rfl p482 b507) rfl ⟨_, rfl, ⟨_, _, rfl, f517, e505⟩, T491⟩

set_option maxHeartbeats 4000000 in
set_option maxRecDepth 8000 in
theorem qmul_k {w : World} {x : Value} {p q : Int} {N0 : Nat} (h0 : Rz N0 w x p q) {y : Value} {p1 q1 : Int} {N1 : Nat} (h1 : Rz N1 w y p1 q1) (hN0 : N0 ≤ 100000000) (hN1 : N1 ≤ 100000000) (hq : q ≠ 0) (hq1 : q1 ≠ 0) (dv : (decide (q.sign ≤ 0) || decide (q1.sign ≤ 0)) = false)  : Calls Try.prog 27 #[x, y] w (Ret (.tup2 (.pair (.cz (rn (p * p1) (q * q1))) (.cz (rd (p * p1) (q * q1)))) (.is (.int .i64 0))) w) := by
  obtain ⟨na0, A0, n0, c0, nb0, B0, m0, d0, e0r, hx0, hy0⟩ := Rz.parts h0
  subst e0r
  have la0 := hx0.len
  have lb0 := hy0.len
  obtain ⟨na1, A1, n1, c1, nb1, B1, m1, d1, e1r, hx1, hy1⟩ := Rz.parts h1
  subst e1r
  have la1 := hx1.len
  have lb1 := hy1.len
  have T0 : Below w.heap.size w w := Below.refl _ _
  go_enter Try.func27, Try.ntmps27
  refine wp_seq ?_
  have HB : w.heap.size ≤ w.heap.size := T0.size
  refine wp_plan_seq [.new 4 (some (29, #[.bool na0, .slice A0 n0 c0, .bool nb0, .slice B0 m0 d0])), .new 4 (some (29, #[.bool na1, .slice A1 n1 c1, .bool nb1, .slice B1 m1 d1])), .new 4 (some (29, #[.bool false, .slice none 0 0, .bool false, .slice none 0 0])), .val (.is (.int .i64 0))] [] [] w.heap.size (by kernel_rfl) (by kernel_rfl) trivial HB ?_ ?_
  · exact ⟨fun s v h => does_new rfl rfl (x_box_r (h.same 0 rfl)) (okr _ _ _ _ _ _ _ _) rfl (.inr rfl),
      fun s v h => does_new rfl rfl (x_box_r (h.same 1 rfl)) (okr _ _ _ _ _ _ _ _) rfl (.inr rfl),
      fun s v h => does_new rfl rfl x_alloc_r (okr _ _ _ _ _ _ _ _) rfl (.inr rfl),
      fun s v h => does_val rfl rfl (x_assign) rfl, trivial⟩
  intro g518 ts v518 hts E518
  simp only [fillL, Nat.reduceAdd, List.setIfInBounds_toArray, List.set_cons_zero, List.set_cons_succ] at hts
  subst hts
  have T519 : Below w.heap.size w v518 := T0.trans E518.below
  have f520 := (pair_mono h0 E518.mono)
  have f521 := (pair_mono h1 E518.mono)
  obtain ⟨q523, p524, l525, o526, b527⟩ : ∃ q, g518 0 = .pointer (some ⟨q, 0, none⟩) ∧ w.heap.size ≤ q ∧ OkB v518 q 4 ∧ Bx v518 q 29 #[.bool na0, .slice A0 n0 c0, .bool nb0, .slice B0 m0 d0] := E518.facts 0 (by decide)
  have h528 : w.heap.size ≤ q523 := Nat.le_trans HB l525
  obtain ⟨q529, p530, l531, o532, b533⟩ : ∃ q, g518 1 = .pointer (some ⟨q, 0, none⟩) ∧ w.heap.size ≤ q ∧ OkB v518 q 4 ∧ Bx v518 q 29 #[.bool na1, .slice A1 n1 c1, .bool nb1, .slice B1 m1 d1] := E518.facts 1 (by decide)
  have h534 : w.heap.size ≤ q529 := Nat.le_trans HB l531
  obtain ⟨q536, p537, l538, o539, b540⟩ : ∃ q, g518 2 = .pointer (some ⟨q, 0, none⟩) ∧ w.heap.size ≤ q ∧ OkB v518 q 4 ∧ Bx v518 q 29 #[.bool false, .slice none 0 0, .bool false, .slice none 0 0] := E518.facts 2 (by decide)
  have h542 : w.heap.size ≤ q536 := Nat.le_trans HB l538
  have n543 : q523 ≠ q536 := E518.apart 0 2 (by decide) (by decide) (by decide) ⟨_, _, _, rfl⟩ ⟨_, _, _, rfl⟩ none _ none _ p524 p537
  have n544 : q529 ≠ q536 := E518.apart 1 2 (by decide) (by decide) (by decide) ⟨_, _, _, rfl⟩ ⟨_, _, _, rfl⟩ none _ none _ p530 p537
  refine then_normal ?_
  refine wp_seq ?_
  have HB : w.heap.size ≤ v518.heap.size := T519.size
  refine wp_plan_seq [.val (.pair (.az N0 p) (.az N0 q)), .val (.pair (.az N1 p1) (.az N1 q1)), .val (.is (.func (.func 64) #[] #[.pointer (some ⟨q523, 0, none⟩), .pointer (some ⟨q529, 0, none⟩)])), .val (.tup2 (.pair (.cz (rn (p * p1) (q * q1))) (.cz (rd (p * p1) (q * q1)))) (.is (.int .i64 0))), .val (.pair (.cz (rn (p * p1) (q * q1))) (.cz (rd (p * p1) (q * q1)))), .val (.is (.int .i64 0)), .put 4 10, .val (.is (.int .i64 0))] [4] [q536] w.heap.size (by kernel_rfl) (by kernel_rfl) ⟨p537, b540.lt, (by simp), trivial⟩ HB ?_ ?_
  · exact ⟨fun s v h => does_val rfl rfl (x_load_r ((h.same 2 rfl).trans p524) ((h.far q523 b527.lt (nin1 n543)).trans b527)) (pair_mono f520 h.mono),
      fun s v h => does_val rfl rfl (x_load_r ((h.same 3 rfl).trans p530) ((h.far q529 b533.lt (nin1 n544)).trans b533)) (pair_mono f521 h.mono),
      fun s v h => does_val rfl rfl x_func2 (func2_lit ((h.same 2 rfl).trans p524) ((h.same 3 rfl).trans p530)),
      fun s v h => does_call rfl rfl (x_call3 Try.call56) (two_ok (h.dep 2 rfl) (h.dep 0 rfl) (h.dep 1 rfl) dv Try.call64 (fun v hb => clo_Mul (Bx.below ((h.far q523 b527.lt (nin1 n543)).trans b527) hb) (Bx.below ((h.far q529 b533.lt (nin1 n544)).trans b533) hb) (pair_mono (pair_mono f520 h.mono) (Mono.below hb)) (pair_mono (pair_mono f521 h.mono) (Mono.below hb)) (by omega) (by omega) hq hq1)),
      fun s v h => by obtain ⟨r0, r1, e, f0, f1⟩ := tup2_at (h.dep 3 rfl); exact does_val rfl rfl (x_ext e rfl) f0,
      fun s v h => by obtain ⟨r0, r1, e, f0, f1⟩ := tup2_at (h.dep 3 rfl); exact does_val rfl rfl (x_ext e rfl) f1,
      fun s v h => does_put_r rfl rfl ((h.same 4 rfl).trans p537) (pair_shape (num_cz _) (num_cz _) (h.dep 4 rfl)) (h.mono.ok _ _ b540.ok4) h542,
      fun s v h => does_val rfl rfl (x_assign) (h.dep 5 rfl), trivial⟩
  intro g545 ts v545 hts E545
  simp only [fillL, Nat.reduceAdd, List.setIfInBounds_toArray, List.set_cons_zero, List.set_cons_succ] at hts
  subst hts
  have T546 : Below w.heap.size w v545 := T519.trans E545.below
  have l547 : q523 < v518.heap.size := b527.lt
  have l548 : q529 < v518.heap.size := b533.lt
  have l549 : q536 < v518.heap.size := b540.lt
  have f558 : ((.pair (.cz (rn (p * p1) (q * q1))) (.cz (rd (p * p1) (q * q1)))) : Known).p v545 (g545 4) := E545.facts 4 (by decide)
  have e560 : g545 7 = (.int .i64 0) := E545.facts 7 (by decide)
  obtain ⟨t561, x563, A564, m565, c566, x567, A568, m569, c570, e571, b562⟩ := put_info4 (E545.facts 6 (by decide)) p537 (pair_shape (num_cz _) (num_cz _) f558)
  have f572 : ((.pair (.cz (rn (p * p1) (q * q1))) (.cz (rd (p * p1) (q * q1)))) : Known).p v545 (.agg #[.bool x563, .slice A564 m565 c566, .bool x567, .slice A568 m569 c570]) := pair_at f558 e571.symm
  refine then_normal ?_
  refine wp_ret ?_
  exact bodyPost_ret (ret_rt rfl p537 b562) rfl ⟨_, rfl, ⟨_, _, rfl, f572, e560⟩, T546⟩

set_option maxHeartbeats 4000000 in
set_option maxRecDepth 8000 in
theorem qmul_b {w : World} {x : Value} {p q : Int} {N0 : Nat} (h0 : Rz N0 w x p q) {y : Value} {p1 q1 : Int} {N1 : Nat} (h1 : Rz N1 w y p1 q1) (dv : (decide (q.sign ≤ 0) || decide (q1.sign ≤ 0)) = true)  : Calls Try.prog 27 #[x, y] w (Ret (.tup2 (.pair (.cz 0) (.cz 0)) (.is (.int .i64 30))) w) := by
  obtain ⟨na0, A0, n0, c0, nb0, B0, m0, d0, e0r, hx0, hy0⟩ := Rz.parts h0
  subst e0r
  have la0 := hx0.len
  have lb0 := hy0.len
  obtain ⟨na1, A1, n1, c1, nb1, B1, m1, d1, e1r, hx1, hy1⟩ := Rz.parts h1
  subst e1r
  have la1 := hx1.len
  have lb1 := hy1.len
  have T0 : Below w.heap.size w w := Below.refl _ _
  go_enter Try.func27, Try.ntmps27
  refine wp_seq ?_
  have HB : w.heap.size ≤ w.heap.size := T0.size
  refine wp_plan_seq [.new 4 (some (29, #[.bool na0, .slice A0 n0 c0, .bool nb0, .slice B0 m0 d0])), .new 4 (some (29, #[.bool na1, .slice A1 n1 c1, .bool nb1, .slice B1 m1 d1])), .new 4 (some (29, #[.bool false, .slice none 0 0, .bool false, .slice none 0 0])), .val (.is (.int .i64 0))] [] [] w.heap.size (by kernel_rfl) (by kernel_rfl) trivial HB ?_ ?_
  · exact ⟨fun s v h => does_new rfl rfl (x_box_r (h.same 0 rfl)) (okr _ _ _ _ _ _ _ _) rfl (.inr rfl),
      fun s v h => does_new rfl rfl (x_box_r (h.same 1 rfl)) (okr _ _ _ _ _ _ _ _) rfl (.inr rfl),
      fun s v h => does_new rfl rfl x_alloc_r (okr _ _ _ _ _ _ _ _) rfl (.inr rfl),
      fun s v h => does_val rfl rfl (x_assign) rfl, trivial⟩
  intro g573 ts v573 hts E573
  simp only [fillL, Nat.reduceAdd, List.setIfInBounds_toArray, List.set_cons_zero, List.set_cons_succ] at hts
  subst hts
  have T574 : Below w.heap.size w v573 := T0.trans E573.below
  have f575 := (pair_mono h0 E573.mono)
  have f576 := (pair_mono h1 E573.mono)
  obtain ⟨q578, p579, l580, o581, b582⟩ : ∃ q, g573 0 = .pointer (some ⟨q, 0, none⟩) ∧ w.heap.size ≤ q ∧ OkB v573 q 4 ∧ Bx v573 q 29 #[.bool na0, .slice A0 n0 c0, .bool nb0, .slice B0 m0 d0] := E573.facts 0 (by decide)
  have h583 : w.heap.size ≤ q578 := Nat.le_trans HB l580
  obtain ⟨q584, p585, l586, o587, b588⟩ : ∃ q, g573 1 = .pointer (some ⟨q, 0, none⟩) ∧ w.heap.size ≤ q ∧ OkB v573 q 4 ∧ Bx v573 q 29 #[.bool na1, .slice A1 n1 c1, .bool nb1, .slice B1 m1 d1] := E573.facts 1 (by decide)
  have h589 : w.heap.size ≤ q584 := Nat.le_trans HB l586
  obtain ⟨q591, p592, l593, o594, b595⟩ : ∃ q, g573 2 = .pointer (some ⟨q, 0, none⟩) ∧ w.heap.size ≤ q ∧ OkB v573 q 4 ∧ Bx v573 q 29 #[.bool false, .slice none 0 0, .bool false, .slice none 0 0] := E573.facts 2 (by decide)
  have h597 : w.heap.size ≤ q591 := Nat.le_trans HB l593
  have n598 : q578 ≠ q591 := E573.apart 0 2 (by decide) (by decide) (by decide) ⟨_, _, _, rfl⟩ ⟨_, _, _, rfl⟩ none _ none _ p579 p592
  have n599 : q584 ≠ q591 := E573.apart 1 2 (by decide) (by decide) (by decide) ⟨_, _, _, rfl⟩ ⟨_, _, _, rfl⟩ none _ none _ p585 p592
  refine then_normal ?_
  refine wp_seq ?_
  have HB : w.heap.size ≤ v573.heap.size := T574.size
  refine wp_plan_seq [.val (.pair (.az N0 p) (.az N0 q)), .val (.pair (.az N1 p1) (.az N1 q1)), .val (.is (.func (.func 64) #[] #[.pointer (some ⟨q578, 0, none⟩), .pointer (some ⟨q584, 0, none⟩)])), .val (.tup2 (.pair (.cz 0) (.cz 0)) (.is (.int .i64 30))), .val (.pair (.cz 0) (.cz 0)), .val (.is (.int .i64 30)), .put 4 10, .val (.is (.int .i64 30))] [4] [q591] w.heap.size (by kernel_rfl) (by kernel_rfl) ⟨p592, b595.lt, (by simp), trivial⟩ HB ?_ ?_
  · exact ⟨fun s v h => does_val rfl rfl (x_load_r ((h.same 2 rfl).trans p579) ((h.far q578 b582.lt (nin1 n598)).trans b582)) (pair_mono f575 h.mono),
      fun s v h => does_val rfl rfl (x_load_r ((h.same 3 rfl).trans p585) ((h.far q584 b588.lt (nin1 n599)).trans b588)) (pair_mono f576 h.mono),
      fun s v h => does_val rfl rfl x_func2 (func2_lit ((h.same 2 rfl).trans p579) ((h.same 3 rfl).trans p585)),
      fun s v h => does_call rfl rfl (x_call3 Try.call56) (two_bad (h.dep 2 rfl) (h.dep 0 rfl) (h.dep 1 rfl) dv),
      fun s v h => by obtain ⟨r0, r1, e, f0, f1⟩ := tup2_at (h.dep 3 rfl); exact does_val rfl rfl (x_ext e rfl) f0,
      fun s v h => by obtain ⟨r0, r1, e, f0, f1⟩ := tup2_at (h.dep 3 rfl); exact does_val rfl rfl (x_ext e rfl) f1,
      fun s v h => does_put_r rfl rfl ((h.same 4 rfl).trans p592) (pair_shape (num_cz _) (num_cz _) (h.dep 4 rfl)) (h.mono.ok _ _ b595.ok4) h597,
      fun s v h => does_val rfl rfl (x_assign) (h.dep 5 rfl), trivial⟩
  intro g600 ts v600 hts E600
  simp only [fillL, Nat.reduceAdd, List.setIfInBounds_toArray, List.set_cons_zero, List.set_cons_succ] at hts
  subst hts
  have T601 : Below w.heap.size w v600 := T574.trans E600.below
  have l602 : q578 < v573.heap.size := b582.lt
  have l603 : q584 < v573.heap.size := b588.lt
  have l604 : q591 < v573.heap.size := b595.lt
  have f613 : ((.pair (.cz 0) (.cz 0)) : Known).p v600 (g600 4) := E600.facts 4 (by decide)
  have e615 : g600 7 = (.int .i64 30) := E600.facts 7 (by decide)
  obtain ⟨t616, x618, A619, m620, c621, x622, A623, m624, c625, e626, b617⟩ := put_info4 (E600.facts 6 (by decide)) p592 (pair_shape (num_cz _) (num_cz _) f613)
  have f627 : ((.pair (.cz 0) (.cz 0)) : Known).p v600 (.agg #[.bool x618, .slice A619 m620 c621, .bool x622, .slice A623 m624 c625]) := pair_at f613 e626.symm
  refine then_normal ?_
  refine wp_ret ?_
  exact bodyPost_ret (ret_rt rfl p592 b617) rfl ⟨_, rfl, ⟨_, _, rfl, f627, e615⟩, T601⟩

set_option maxHeartbeats 4000000 in
set_option maxRecDepth 8000 in
theorem qdiv_k {w : World} {x : Value} {p q : Int} {N0 : Nat} (h0 : Rz N0 w x p q) {y : Value} {p1 q1 : Int} {N1 : Nat} (h1 : Rz N1 w y p1 q1) (hN0 : N0 ≤ 100000000) (hN1 : N1 ≤ 100000000) (hq : q ≠ 0) (hp1 : p1 ≠ 0) (dv : (decide (q.sign ≤ 0) || decide (q1.sign ≤ 0)) = false) (ds : (p1.sign == 0) = false)  : Calls Try.prog 28 #[x, y] w (Ret (.tup2 (.pair (.cz (rn (p * q1) (q * p1))) (.cz (rd (p * q1) (q * p1)))) (.is (.int .i64 0))) w) := by
  obtain ⟨na0, A0, n0, c0, nb0, B0, m0, d0, e0r, hx0, hy0⟩ := Rz.parts h0
  subst e0r
  have la0 := hx0.len
  have lb0 := hy0.len
  obtain ⟨na1, A1, n1, c1, nb1, B1, m1, d1, e1r, hx1, hy1⟩ := Rz.parts h1
  subst e1r
  have la1 := hx1.len
  have lb1 := hy1.len
  have T0 : Below w.heap.size w w := Below.refl _ _
  go_enter Try.func28, Try.ntmps28
  refine wp_seq ?_
  have HB : w.heap.size ≤ w.heap.size := T0.size
  refine wp_plan_seq [.new 4 (some (29, #[.bool na0, .slice A0 n0 c0, .bool nb0, .slice B0 m0 d0])), .new 4 (some (29, #[.bool na1, .slice A1 n1 c1, .bool nb1, .slice B1 m1 d1])), .new 4 (some (29, #[.bool false, .slice none 0 0, .bool false, .slice none 0 0])), .val (.is (.int .i64 0))] [] [] w.heap.size (by kernel_rfl) (by kernel_rfl) trivial HB ?_ ?_
  · exact ⟨fun s v h => does_new rfl rfl (x_box_r (h.same 0 rfl)) (okr _ _ _ _ _ _ _ _) rfl (.inr rfl),
      fun s v h => does_new rfl rfl (x_box_r (h.same 1 rfl)) (okr _ _ _ _ _ _ _ _) rfl (.inr rfl),
      fun s v h => does_new rfl rfl x_alloc_r (okr _ _ _ _ _ _ _ _) rfl (.inr rfl),
      fun s v h => does_val rfl rfl (x_assign) rfl, trivial⟩
  intro g628 ts v628 hts E628
  simp only [fillL, Nat.reduceAdd, List.setIfInBounds_toArray, List.set_cons_zero, List.set_cons_succ] at hts
  subst hts
  have T629 : Below w.heap.size w v628 := T0.trans E628.below
  have f630 := (pair_mono h0 E628.mono)
  have f631 := (pair_mono h1 E628.mono)
  obtain ⟨q633, p634, l635, o636, b637⟩ : ∃ q, g628 0 = .pointer (some ⟨q, 0, none⟩) ∧ w.heap.size ≤ q ∧ OkB v628 q 4 ∧ Bx v628 q 29 #[.bool na0, .slice A0 n0 c0, .bool nb0, .slice B0 m0 d0] := E628.facts 0 (by decide)
  have h638 : w.heap.size ≤ q633 := Nat.le_trans HB l635
  obtain ⟨q639, p640, l641, o642, b643⟩ : ∃ q, g628 1 = .pointer (some ⟨q, 0, none⟩) ∧ w.heap.size ≤ q ∧ OkB v628 q 4 ∧ Bx v628 q 29 #[.bool na1, .slice A1 n1 c1, .bool nb1, .slice B1 m1 d1] := E628.facts 1 (by decide)
  have h644 : w.heap.size ≤ q639 := Nat.le_trans HB l641
  obtain ⟨q646, p647, l648, o649, b650⟩ : ∃ q, g628 2 = .pointer (some ⟨q, 0, none⟩) ∧ w.heap.size ≤ q ∧ OkB v628 q 4 ∧ Bx v628 q 29 #[.bool false, .slice none 0 0, .bool false, .slice none 0 0] := E628.facts 2 (by decide)
  have h652 : w.heap.size ≤ q646 := Nat.le_trans HB l648
  have n653 : q633 ≠ q646 := E628.apart 0 2 (by decide) (by decide) (by decide) ⟨_, _, _, rfl⟩ ⟨_, _, _, rfl⟩ none _ none _ p634 p647
  have n654 : q639 ≠ q646 := E628.apart 1 2 (by decide) (by decide) (by decide) ⟨_, _, _, rfl⟩ ⟨_, _, _, rfl⟩ none _ none _ p640 p647
  refine then_normal ?_
  refine wp_seq ?_
  refine wp_seq ?_
  have HB : w.heap.size ≤ v628.heap.size := T629.size
  refine wp_plan_seq [.val (.is (.agg #[.bool na0, .slice A0 n0 c0, .bool nb0, .slice B0 m0 d0])), .val (.is (.agg #[.bool na1, .slice A1 n1 c1, .bool nb1, .slice B1 m1 d1])), .new 8 (some (29, #[.bool na0, .slice A0 n0 c0, .bool nb0, .slice B0 m0 d0, .bool na1, .slice A1 n1 c1, .bool nb1, .slice B1 m1 d1])) (some 2), .val (.is (.int .i64 0)), .val (.is (.int .i64 0))] [] [] w.heap.size (by kernel_rfl) (by kernel_rfl) trivial HB ?_ ?_
  · exact ⟨fun s v h => does_val rfl rfl (x_load_r ((h.same 2 rfl).trans p634) ((h.far q633 b637.lt (by simp)).trans b637)) rfl,
      fun s v h => does_val rfl rfl (x_load_r ((h.same 3 rfl).trans p640) ((h.far q639 b643.lt (by simp)).trans b643)) rfl,
      fun s v h => does_row rfl rfl (x_row2 (h.dep 0 rfl) (h.dep 1 rfl)) (okr8 _ _ _ _ _ _ _ _ _ _ _ _ _ _ _ _ ) rfl,
      fun s v h => does_call rfl rfl (x_call1 Try.call41) (valid2_k (h.dep 2 rfl) (pair_mono f630 h.mono) (pair_mono f631 h.mono) dv),
      fun s v h => does_val rfl rfl (x_assign) (h.dep 3 rfl), trivial⟩
  intro g655 ts v655 hts E655
  simp only [fillL, Nat.reduceAdd, List.setIfInBounds_toArray, List.set_cons_zero, List.set_cons_succ] at hts
  subst hts
  have T656 : Below w.heap.size w v655 := T629.trans E655.below
  have l657 : q633 < v628.heap.size := b637.lt
  have l658 : q639 < v628.heap.size := b643.lt
  have l659 : q646 < v628.heap.size := b650.lt
  have b660 : Bx v655 q633 29 #[.bool na0, .slice A0 n0 c0, .bool nb0, .slice B0 m0 d0] := (E655.far q633 b637.lt (by simp)).trans b637
  have b661 : Bx v655 q639 29 #[.bool na1, .slice A1 n1 c1, .bool nb1, .slice B1 m1 d1] := (E655.far q639 b643.lt (by simp)).trans b643
  have b662 : Bx v655 q646 29 #[.bool false, .slice none 0 0, .bool false, .slice none 0 0] := (E655.far q646 b650.lt (by simp)).trans b650
  have f663 := (pair_mono f630 E655.mono)
  have f664 := (pair_mono f631 E655.mono)
  have e669 : g655 4 = (.int .i64 0) := E655.facts 4 (by decide)
  refine then_normal ?_
  refine wp_seq ?_
  have HB : w.heap.size ≤ v655.heap.size := T656.size
  refine wp_plan_seq [.val (.is (.int .i64 0)), .val (.is (.bool false))] [] [] w.heap.size (by kernel_rfl) (by kernel_rfl) trivial HB ?_ ?_
  · exact ⟨fun s v h => does_val rfl rfl (x_move) ((h.same 6 rfl).trans e669),
      fun s v h => does_val rfl rfl (x_neq_err (h.dep 0 rfl) rfl) rfl, trivial⟩
  intro g670 ts v670 hts E670
  simp only [fillL, Nat.reduceAdd, List.setIfInBounds_toArray, List.set_cons_zero, List.set_cons_succ] at hts
  subst hts
  have T671 : Below w.heap.size w v670 := T656.trans E670.below
  have l672 : q633 < v655.heap.size := b660.lt
  have l673 : q639 < v655.heap.size := b661.lt
  have l674 : q646 < v655.heap.size := b662.lt
  have b675 : Bx v670 q633 29 #[.bool na0, .slice A0 n0 c0, .bool nb0, .slice B0 m0 d0] := (E670.far q633 b660.lt (by simp)).trans b660
  have b676 : Bx v670 q639 29 #[.bool na1, .slice A1 n1 c1, .bool nb1, .slice B1 m1 d1] := (E670.far q639 b661.lt (by simp)).trans b661
  have b677 : Bx v670 q646 29 #[.bool false, .slice none 0 0, .bool false, .slice none 0 0] := (E670.far q646 b662.lt (by simp)).trans b662
  have f678 := (pair_mono f663 E670.mono)
  have f679 := (pair_mono f664 E670.mono)
  have e682 : g670 1 = (.bool false) := E670.facts 1 (by decide)
  refine then_normal ?_
  refine wp_cond_false e682 ?_
  refine wp_skip ?_
  refine then_normal ?_
  refine wp_seq ?_
  refine wp_seq ?_
  have HB : w.heap.size ≤ v670.heap.size := T671.size
  refine wp_plan_seq [.val (.is (.pointer (some ⟨q639, 0, none⟩))), .val (.az N1 p1), .val (.is (.int .i64 p1.sign)), .val (.is (.bool false))] [] [] w.heap.size (by kernel_rfl) (by kernel_rfl) trivial HB ?_ ?_
  · exact ⟨fun s v h => does_val rfl rfl (x_fld_r0 ((h.same 3 rfl).trans p640)) rfl,
      fun s v h => does_val rfl rfl (x_load_r0 (h.dep 0 rfl) ((h.far q639 b676.lt (by simp)).trans b676)) (pair_fst (pair_mono f679 h.mono)),
      fun s v h => does_call rfl rfl (x_call1 Try.call43) (sign_k (h.dep 1 rfl)),
      fun s v h => does_val rfl rfl (x_eql_int (h.dep 2 rfl) rfl) (congrArg Value.bool ds), trivial⟩
  intro g683 ts v683 hts E683
  simp only [fillL, Nat.reduceAdd, List.setIfInBounds_toArray, List.set_cons_zero, List.set_cons_succ] at hts
  subst hts
  have T684 : Below w.heap.size w v683 := T671.trans E683.below
  have l685 : q633 < v670.heap.size := b675.lt
  have l686 : q639 < v670.heap.size := b676.lt
  have l687 : q646 < v670.heap.size := b677.lt
  have b688 : Bx v683 q633 29 #[.bool na0, .slice A0 n0 c0, .bool nb0, .slice B0 m0 d0] := (E683.far q633 b675.lt (by simp)).trans b675
  have b689 : Bx v683 q639 29 #[.bool na1, .slice A1 n1 c1, .bool nb1, .slice B1 m1 d1] := (E683.far q639 b676.lt (by simp)).trans b676
  have b690 : Bx v683 q646 29 #[.bool false, .slice none 0 0, .bool false, .slice none 0 0] := (E683.far q646 b677.lt (by simp)).trans b677
  have f691 := (pair_mono f678 E683.mono)
  have f692 := (pair_mono f679 E683.mono)
  have e696 : g683 3 = (.bool false) := E683.facts 3 (by decide)
  refine then_normal ?_
  refine wp_cond_false e696 ?_
  refine wp_skip ?_
  refine then_normal ?_
  refine wp_seq ?_
  have HB : w.heap.size ≤ v683.heap.size := T684.size
  refine wp_plan_any [.val (.is (.pointer (some ⟨q633, 0, none⟩))), .val (.az N0 p), .val (.is (.pointer (some ⟨q639, 2, none⟩))), .val (.az N1 q1), .val (.cz (p * q1)), .val (.is (.pointer (some ⟨q633, 2, none⟩))), .val (.az N0 q), .val (.is (.pointer (some ⟨q639, 0, none⟩))), .val (.az N1 p1), .val (.cz (q * p1)), .val (.pair (.cz (rn (p * q1) (q * p1))) (.cz (rd (p * q1) (q * p1)))), .put 4 30, .val (.is (.int .i64 0))] [4] [q646] w.heap.size (by kernel_rfl) (by kernel_rfl) (by kernel_rfl) ⟨p647, b690.lt, (by simp), trivial⟩ HB ?_ ?_
  · exact ⟨fun s v h => does_val rfl rfl (x_fld_r0 ((h.same 2 rfl).trans p634)) rfl,
      fun s v h => does_val rfl rfl (x_load_r0 (h.dep 0 rfl) ((h.far q633 b688.lt (nin1 n653)).trans b688)) (pair_fst (pair_mono f691 ((Mono.drew _).trans h.mono))),
      fun s v h => does_val rfl rfl (x_fld_r1 ((h.same 3 rfl).trans p640)) rfl,
      fun s v h => does_val rfl rfl (x_load_r1 (h.dep 2 rfl) ((h.far q639 b689.lt (nin1 n654)).trans b689)) (pair_snd (pair_mono f692 ((Mono.drew _).trans h.mono))),
      fun s v h => does_call rfl rfl (x_call2 Try.call55) (mul_k (h.dep 1 rfl) (h.dep 3 rfl) (by omega) (by omega)),
      fun s v h => does_val rfl rfl (x_fld_r1 ((h.same 2 rfl).trans p634)) rfl,
      fun s v h => does_val rfl rfl (x_load_r1 (h.dep 5 rfl) ((h.far q633 b688.lt (nin1 n653)).trans b688)) (pair_snd (pair_mono f691 ((Mono.drew _).trans h.mono))),
      fun s v h => does_val rfl rfl (x_fld_r0 ((h.same 3 rfl).trans p640)) rfl,
      fun s v h => does_val rfl rfl (x_load_r0 (h.dep 7 rfl) ((h.far q639 b689.lt (nin1 n654)).trans b689)) (pair_fst (pair_mono f692 ((Mono.drew _).trans h.mono))),
      fun s v h => does_call rfl rfl (x_call2 Try.call55) (mul_k (h.dep 6 rfl) (h.dep 8 rfl) (by omega) (by omega)),
      fun s v h => does_call rfl rfl (x_call2 Try.call44) (qmade_k ((h.dep 4 rfl).az (N := (N0 + N1)) (len_mul la0 lb1)) ((h.dep 9 rfl).az (N := (N0 + N1)) (len_mul lb0 la1)) (by omega) (by omega) (Int.mul_ne_zero hq hp1)),
      fun s v h => does_put_r rfl rfl ((h.same 4 rfl).trans p647) (pair_shape (num_cz _) (num_cz _) (h.dep 10 rfl)) (((Mono.drew _).trans h.mono).ok _ _ b690.ok4) h652,
      fun s v h => does_val rfl rfl (x_assign) rfl, trivial⟩
  intro g697 ts v697 hts E697
  simp only [fillL, Nat.reduceAdd, List.setIfInBounds_toArray, List.set_cons_zero, List.set_cons_succ] at hts
  subst hts
  have T698 : Below w.heap.size w v697 := (below_toDrew T684).trans E697.below
  have l699 : q633 < v683.heap.size := b688.lt
  have l700 : q639 < v683.heap.size := b689.lt
  have l701 : q646 < v683.heap.size := b690.lt
  have f714 : ((.pair (.cz (rn (p * q1) (q * p1))) (.cz (rd (p * q1) (q * p1)))) : Known).p v697 (g697 10) := E697.facts 10 (by decide)
  have e715 : g697 12 = (.int .i64 0) := E697.facts 12 (by decide)
  obtain ⟨t716, x718, A719, m720, c721, x722, A723, m724, c725, e726, b717⟩ := put_info4 (E697.facts 11 (by decide)) p647 (pair_shape (num_cz _) (num_cz _) f714)
  have f727 : ((.pair (.cz (rn (p * q1) (q * p1))) (.cz (rd (p * q1) (q * p1)))) : Known).p v697 (.agg #[.bool x718, .slice A719 m720 c721, .bool x722, .slice A723 m724 c725]) := pair_at f714 e726.symm
  refine then_normal ?_
  refine wp_ret ?_
  exact bodyPost_ret (ret_rt rfl p647 b717) rfl ⟨_, rfl, ⟨_, _, rfl, f727, e715⟩, T698⟩

set_option maxHeartbeats 4000000 in
set_option maxRecDepth 8000 in
theorem qdiv_z {w : World} {x : Value} {p q : Int} {N0 : Nat} (h0 : Rz N0 w x p q) {y : Value} {p1 q1 : Int} {N1 : Nat} (h1 : Rz N1 w y p1 q1) (dv : (decide (q.sign ≤ 0) || decide (q1.sign ≤ 0)) = false) (ds : (p1.sign == 0) = true)  : Calls Try.prog 28 #[x, y] w (Ret (.tup2 (.pair (.cz 0) (.cz 0)) (.is (.int .i64 11))) w) := by
  obtain ⟨na0, A0, n0, c0, nb0, B0, m0, d0, e0r, hx0, hy0⟩ := Rz.parts h0
  subst e0r
  have la0 := hx0.len
  have lb0 := hy0.len
  obtain ⟨na1, A1, n1, c1, nb1, B1, m1, d1, e1r, hx1, hy1⟩ := Rz.parts h1
  subst e1r
  have la1 := hx1.len
  have lb1 := hy1.len
  have T0 : Below w.heap.size w w := Below.refl _ _
  go_enter Try.func28, Try.ntmps28
  refine wp_seq ?_
  have HB : w.heap.size ≤ w.heap.size := T0.size
  refine wp_plan_seq [.new 4 (some (29, #[.bool na0, .slice A0 n0 c0, .bool nb0, .slice B0 m0 d0])), .new 4 (some (29, #[.bool na1, .slice A1 n1 c1, .bool nb1, .slice B1 m1 d1])), .new 4 (some (29, #[.bool false, .slice none 0 0, .bool false, .slice none 0 0])), .val (.is (.int .i64 0))] [] [] w.heap.size (by kernel_rfl) (by kernel_rfl) trivial HB ?_ ?_
  · exact ⟨fun s v h => does_new rfl rfl (x_box_r (h.same 0 rfl)) (okr _ _ _ _ _ _ _ _) rfl (.inr rfl),
      fun s v h => does_new rfl rfl (x_box_r (h.same 1 rfl)) (okr _ _ _ _ _ _ _ _) rfl (.inr rfl),
      fun s v h => does_new rfl rfl x_alloc_r (okr _ _ _ _ _ _ _ _) rfl (.inr rfl),
      fun s v h => does_val rfl rfl (x_assign) rfl, trivial⟩
  intro g728 ts v728 hts E728
  simp only [fillL, Nat.reduceAdd, List.setIfInBounds_toArray, List.set_cons_zero, List.set_cons_succ] at hts
  subst hts
  have T729 : Below w.heap.size w v728 := T0.trans E728.below
  have f730 := (pair_mono h0 E728.mono)
  have f731 := (pair_mono h1 E728.mono)
  obtain ⟨q733, p734, l735, o736, b737⟩ : ∃ q, g728 0 = .pointer (some ⟨q, 0, none⟩) ∧ w.heap.size ≤ q ∧ OkB v728 q 4 ∧ Bx v728 q 29 #[.bool na0, .slice A0 n0 c0, .bool nb0, .slice B0 m0 d0] := E728.facts 0 (by decide)
  have h738 : w.heap.size ≤ q733 := Nat.le_trans HB l735
  obtain ⟨q739, p740, l741, o742, b743⟩ : ∃ q, g728 1 = .pointer (some ⟨q, 0, none⟩) ∧ w.heap.size ≤ q ∧ OkB v728 q 4 ∧ Bx v728 q 29 #[.bool na1, .slice A1 n1 c1, .bool nb1, .slice B1 m1 d1] := E728.facts 1 (by decide)
  have h744 : w.heap.size ≤ q739 := Nat.le_trans HB l741
  obtain ⟨q746, p747, l748, o749, b750⟩ : ∃ q, g728 2 = .pointer (some ⟨q, 0, none⟩) ∧ w.heap.size ≤ q ∧ OkB v728 q 4 ∧ Bx v728 q 29 #[.bool false, .slice none 0 0, .bool false, .slice none 0 0] := E728.facts 2 (by decide)
  have h752 : w.heap.size ≤ q746 := Nat.le_trans HB l748
  refine then_normal ?_
  refine wp_seq ?_
  refine wp_seq ?_
  have HB : w.heap.size ≤ v728.heap.size := T729.size
  refine wp_plan_seq [.val (.is (.agg #[.bool na0, .slice A0 n0 c0, .bool nb0, .slice B0 m0 d0])), .val (.is (.agg #[.bool na1, .slice A1 n1 c1, .bool nb1, .slice B1 m1 d1])), .new 8 (some (29, #[.bool na0, .slice A0 n0 c0, .bool nb0, .slice B0 m0 d0, .bool na1, .slice A1 n1 c1, .bool nb1, .slice B1 m1 d1])) (some 2), .val (.is (.int .i64 0)), .val (.is (.int .i64 0))] [] [] w.heap.size (by kernel_rfl) (by kernel_rfl) trivial HB ?_ ?_
  · exact ⟨fun s v h => does_val rfl rfl (x_load_r ((h.same 2 rfl).trans p734) ((h.far q733 b737.lt (by simp)).trans b737)) rfl,
      fun s v h => does_val rfl rfl (x_load_r ((h.same 3 rfl).trans p740) ((h.far q739 b743.lt (by simp)).trans b743)) rfl,
      fun s v h => does_row rfl rfl (x_row2 (h.dep 0 rfl) (h.dep 1 rfl)) (okr8 _ _ _ _ _ _ _ _ _ _ _ _ _ _ _ _ ) rfl,
      fun s v h => does_call rfl rfl (x_call1 Try.call41) (valid2_k (h.dep 2 rfl) (pair_mono f730 h.mono) (pair_mono f731 h.mono) dv),
      fun s v h => does_val rfl rfl (x_assign) (h.dep 3 rfl), trivial⟩
  intro g755 ts v755 hts E755
  simp only [fillL, Nat.reduceAdd, List.setIfInBounds_toArray, List.set_cons_zero, List.set_cons_succ] at hts
  subst hts
  have T756 : Below w.heap.size w v755 := T729.trans E755.below
  have l757 : q733 < v728.heap.size := b737.lt
  have l758 : q739 < v728.heap.size := b743.lt
  have l759 : q746 < v728.heap.size := b750.lt
  have b760 : Bx v755 q733 29 #[.bool na0, .slice A0 n0 c0, .bool nb0, .slice B0 m0 d0] := (E755.far q733 b737.lt (by simp)).trans b737
  have b761 : Bx v755 q739 29 #[.bool na1, .slice A1 n1 c1, .bool nb1, .slice B1 m1 d1] := (E755.far q739 b743.lt (by simp)).trans b743
  have b762 : Bx v755 q746 29 #[.bool false, .slice none 0 0, .bool false, .slice none 0 0] := (E755.far q746 b750.lt (by simp)).trans b750
  have f764 := (pair_mono f731 E755.mono)
  have e769 : g755 4 = (.int .i64 0) := E755.facts 4 (by decide)
  refine then_normal ?_
  refine wp_seq ?_
  have HB : w.heap.size ≤ v755.heap.size := T756.size
  refine wp_plan_seq [.val (.is (.int .i64 0)), .val (.is (.bool false))] [] [] w.heap.size (by kernel_rfl) (by kernel_rfl) trivial HB ?_ ?_
  · exact ⟨fun s v h => does_val rfl rfl (x_move) ((h.same 6 rfl).trans e769),
      fun s v h => does_val rfl rfl (x_neq_err (h.dep 0 rfl) rfl) rfl, trivial⟩
  intro g770 ts v770 hts E770
  simp only [fillL, Nat.reduceAdd, List.setIfInBounds_toArray, List.set_cons_zero, List.set_cons_succ] at hts
  subst hts
  have T771 : Below w.heap.size w v770 := T756.trans E770.below
  have l772 : q733 < v755.heap.size := b760.lt
  have l773 : q739 < v755.heap.size := b761.lt
  have l774 : q746 < v755.heap.size := b762.lt
  have b775 : Bx v770 q733 29 #[.bool na0, .slice A0 n0 c0, .bool nb0, .slice B0 m0 d0] := (E770.far q733 b760.lt (by simp)).trans b760
  have b776 : Bx v770 q739 29 #[.bool na1, .slice A1 n1 c1, .bool nb1, .slice B1 m1 d1] := (E770.far q739 b761.lt (by simp)).trans b761
  have b777 : Bx v770 q746 29 #[.bool false, .slice none 0 0, .bool false, .slice none 0 0] := (E770.far q746 b762.lt (by simp)).trans b762
  have f779 := (pair_mono f764 E770.mono)
  have e782 : g770 1 = (.bool false) := E770.facts 1 (by decide)
  refine then_normal ?_
  refine wp_cond_false e782 ?_
  refine wp_skip ?_
  refine then_normal ?_
  refine wp_seq ?_
  refine wp_seq ?_
  have HB : w.heap.size ≤ v770.heap.size := T771.size
  refine wp_plan_seq [.val (.is (.pointer (some ⟨q739, 0, none⟩))), .val (.az N1 p1), .val (.is (.int .i64 p1.sign)), .val (.is (.bool true))] [] [] w.heap.size (by kernel_rfl) (by kernel_rfl) trivial HB ?_ ?_
  · exact ⟨fun s v h => does_val rfl rfl (x_fld_r0 ((h.same 3 rfl).trans p740)) rfl,
      fun s v h => does_val rfl rfl (x_load_r0 (h.dep 0 rfl) ((h.far q739 b776.lt (by simp)).trans b776)) (pair_fst (pair_mono f779 h.mono)),
      fun s v h => does_call rfl rfl (x_call1 Try.call43) (sign_k (h.dep 1 rfl)),
      fun s v h => does_val rfl rfl (x_eql_int (h.dep 2 rfl) rfl) (congrArg Value.bool ds), trivial⟩
  intro g783 ts v783 hts E783
  simp only [fillL, Nat.reduceAdd, List.setIfInBounds_toArray, List.set_cons_zero, List.set_cons_succ] at hts
  subst hts
  have T784 : Below w.heap.size w v783 := T771.trans E783.below
  have l785 : q733 < v770.heap.size := b775.lt
  have l786 : q739 < v770.heap.size := b776.lt
  have l787 : q746 < v770.heap.size := b777.lt
  have b788 : Bx v783 q733 29 #[.bool na0, .slice A0 n0 c0, .bool nb0, .slice B0 m0 d0] := (E783.far q733 b775.lt (by simp)).trans b775
  have b789 : Bx v783 q739 29 #[.bool na1, .slice A1 n1 c1, .bool nb1, .slice B1 m1 d1] := (E783.far q739 b776.lt (by simp)).trans b776
  have b790 : Bx v783 q746 29 #[.bool false, .slice none 0 0, .bool false, .slice none 0 0] := (E783.far q746 b777.lt (by simp)).trans b777
  have e796 : g783 3 = (.bool true) := E783.facts 3 (by decide)
  refine then_normal ?_
  refine wp_cond_true e796 ?_
  refine wp_seq ?_
  have HB : w.heap.size ≤ v783.heap.size := T784.size
  refine wp_plan_seq [.val (.is (.agg #[.bool false, .slice none 0 0, .bool false, .slice none 0 0])), .put 4 19, .val (.is (.int .i64 11))] [4] [q746] w.heap.size (by kernel_rfl) (by kernel_rfl) ⟨p747, b790.lt, (by simp), trivial⟩ HB ?_ ?_
  · exact ⟨fun s v h => does_val rfl rfl (x_build_r0) rfl,
      fun s v h => does_put_r rfl rfl ((h.same 4 rfl).trans p747) ⟨_, _, _, _, _, _, _, _, (h.dep 0 rfl)⟩ (h.mono.ok _ _ b790.ok4) h752,
      fun s v h => does_val rfl rfl (x_assign) rfl, trivial⟩
  intro g797 ts v797 hts E797
  simp only [fillL, Nat.reduceAdd, List.setIfInBounds_toArray, List.set_cons_zero, List.set_cons_succ] at hts
  subst hts
  have T798 : Below w.heap.size w v797 := T784.trans E797.below
  have l799 : q733 < v783.heap.size := b788.lt
  have l800 : q739 < v783.heap.size := b789.lt
  have l801 : q746 < v783.heap.size := b790.lt
  have e808 : g797 0 = (.agg #[.bool false, .slice none 0 0, .bool false, .slice none 0 0]) := E797.facts 0 (by decide)
  have e809 : g797 2 = (.int .i64 11) := E797.facts 2 (by decide)
  obtain ⟨t810, b811⟩ := put_lit (E797.facts 1 (by decide)) p747 e808
  have f812 : ((.pair (.cz 0) (.cz 0)) : Known).p v797 (.agg #[.bool false, .slice none 0 0, .bool false, .slice none 0 0]) := rat_zero _
  refine then_normal ?_
  refine wp_ret ?_
  exact bodyPost_ret (ret_rt rfl p747 b811) rfl ⟨_, rfl, ⟨_, _, rfl, f812, e809⟩, T798⟩

set_option maxHeartbeats 4000000 in
set_option maxRecDepth 8000 in
theorem qdiv_b {w : World} {x : Value} {p q : Int} {N0 : Nat} (h0 : Rz N0 w x p q) {y : Value} {p1 q1 : Int} {N1 : Nat} (h1 : Rz N1 w y p1 q1) (dv : (decide (q.sign ≤ 0) || decide (q1.sign ≤ 0)) = true)  : Calls Try.prog 28 #[x, y] w (Ret (.tup2 (.pair (.cz 0) (.cz 0)) (.is (.int .i64 30))) w) := by
  obtain ⟨na0, A0, n0, c0, nb0, B0, m0, d0, e0r, hx0, hy0⟩ := Rz.parts h0
  subst e0r
  have la0 := hx0.len
  have lb0 := hy0.len
  obtain ⟨na1, A1, n1, c1, nb1, B1, m1, d1, e1r, hx1, hy1⟩ := Rz.parts h1
  subst e1r
  have la1 := hx1.len
  have lb1 := hy1.len
  have T0 : Below w.heap.size w w := Below.refl _ _
  go_enter Try.func28, Try.ntmps28
  refine wp_seq ?_
  have HB : w.heap.size ≤ w.heap.size := T0.size
  refine wp_plan_seq [.new 4 (some (29, #[.bool na0, .slice A0 n0 c0, .bool nb0, .slice B0 m0 d0])), .new 4 (some (29, #[.bool na1, .slice A1 n1 c1, .bool nb1, .slice B1 m1 d1])), .new 4 (some (29, #[.bool false, .slice none 0 0, .bool false, .slice none 0 0])), .val (.is (.int .i64 0))] [] [] w.heap.size (by kernel_rfl) (by kernel_rfl) trivial HB ?_ ?_
  · exact ⟨fun s v h => does_new rfl rfl (x_box_r (h.same 0 rfl)) (okr _ _ _ _ _ _ _ _) rfl (.inr rfl),
      fun s v h => does_new rfl rfl (x_box_r (h.same 1 rfl)) (okr _ _ _ _ _ _ _ _) rfl (.inr rfl),
      fun s v h => does_new rfl rfl x_alloc_r (okr _ _ _ _ _ _ _ _) rfl (.inr rfl),
      fun s v h => does_val rfl rfl (x_assign) rfl, trivial⟩
  intro g813 ts v813 hts E813
  simp only [fillL, Nat.reduceAdd, List.setIfInBounds_toArray, List.set_cons_zero, List.set_cons_succ] at hts
  subst hts
  have T814 : Below w.heap.size w v813 := T0.trans E813.below
  have f815 := (pair_mono h0 E813.mono)
  have f816 := (pair_mono h1 E813.mono)
  obtain ⟨q818, p819, l820, o821, b822⟩ : ∃ q, g813 0 = .pointer (some ⟨q, 0, none⟩) ∧ w.heap.size ≤ q ∧ OkB v813 q 4 ∧ Bx v813 q 29 #[.bool na0, .slice A0 n0 c0, .bool nb0, .slice B0 m0 d0] := E813.facts 0 (by decide)
  have h823 : w.heap.size ≤ q818 := Nat.le_trans HB l820
  obtain ⟨q824, p825, l826, o827, b828⟩ : ∃ q, g813 1 = .pointer (some ⟨q, 0, none⟩) ∧ w.heap.size ≤ q ∧ OkB v813 q 4 ∧ Bx v813 q 29 #[.bool na1, .slice A1 n1 c1, .bool nb1, .slice B1 m1 d1] := E813.facts 1 (by decide)
  have h829 : w.heap.size ≤ q824 := Nat.le_trans HB l826
  obtain ⟨q831, p832, l833, o834, b835⟩ : ∃ q, g813 2 = .pointer (some ⟨q, 0, none⟩) ∧ w.heap.size ≤ q ∧ OkB v813 q 4 ∧ Bx v813 q 29 #[.bool false, .slice none 0 0, .bool false, .slice none 0 0] := E813.facts 2 (by decide)
  have h837 : w.heap.size ≤ q831 := Nat.le_trans HB l833
  refine then_normal ?_
  refine wp_seq ?_
  refine wp_seq ?_
  have HB : w.heap.size ≤ v813.heap.size := T814.size
  refine wp_plan_seq [.val (.is (.agg #[.bool na0, .slice A0 n0 c0, .bool nb0, .slice B0 m0 d0])), .val (.is (.agg #[.bool na1, .slice A1 n1 c1, .bool nb1, .slice B1 m1 d1])), .new 8 (some (29, #[.bool na0, .slice A0 n0 c0, .bool nb0, .slice B0 m0 d0, .bool na1, .slice A1 n1 c1, .bool nb1, .slice B1 m1 d1])) (some 2), .val (.is (.int .i64 30)), .val (.is (.int .i64 30))] [] [] w.heap.size (by kernel_rfl) (by kernel_rfl) trivial HB ?_ ?_
  · exact ⟨fun s v h => does_val rfl rfl (x_load_r ((h.same 2 rfl).trans p819) ((h.far q818 b822.lt (by simp)).trans b822)) rfl,
      fun s v h => does_val rfl rfl (x_load_r ((h.same 3 rfl).trans p825) ((h.far q824 b828.lt (by simp)).trans b828)) rfl,
      fun s v h => does_row rfl rfl (x_row2 (h.dep 0 rfl) (h.dep 1 rfl)) (okr8 _ _ _ _ _ _ _ _ _ _ _ _ _ _ _ _ ) rfl,
      fun s v h => does_call rfl rfl (x_call1 Try.call41) (valid2_k (h.dep 2 rfl) (pair_mono f815 h.mono) (pair_mono f816 h.mono) dv),
      fun s v h => does_val rfl rfl (x_assign) (h.dep 3 rfl), trivial⟩
  intro g840 ts v840 hts E840
  simp only [fillL, Nat.reduceAdd, List.setIfInBounds_toArray, List.set_cons_zero, List.set_cons_succ] at hts
  subst hts
  have T841 : Below w.heap.size w v840 := T814.trans E840.below
  have l842 : q818 < v813.heap.size := b822.lt
  have l843 : q824 < v813.heap.size := b828.lt
  have l844 : q831 < v813.heap.size := b835.lt
  have b845 : Bx v840 q818 29 #[.bool na0, .slice A0 n0 c0, .bool nb0, .slice B0 m0 d0] := (E840.far q818 b822.lt (by simp)).trans b822
  have b846 : Bx v840 q824 29 #[.bool na1, .slice A1 n1 c1, .bool nb1, .slice B1 m1 d1] := (E840.far q824 b828.lt (by simp)).trans b828
  have b847 : Bx v840 q831 29 #[.bool false, .slice none 0 0, .bool false, .slice none 0 0] := (E840.far q831 b835.lt (by simp)).trans b835
  have e854 : g840 4 = (.int .i64 30) := E840.facts 4 (by decide)
  refine then_normal ?_
  refine wp_seq ?_
  have HB : w.heap.size ≤ v840.heap.size := T841.size
  refine wp_plan_seq [.val (.is (.int .i64 30)), .val (.is (.bool true))] [] [] w.heap.size (by kernel_rfl) (by kernel_rfl) trivial HB ?_ ?_
  · exact ⟨fun s v h => does_val rfl rfl (x_move) ((h.same 6 rfl).trans e854),
      fun s v h => does_val rfl rfl (x_neq_err (h.dep 0 rfl) rfl) rfl, trivial⟩
  intro g855 ts v855 hts E855
  simp only [fillL, Nat.reduceAdd, List.setIfInBounds_toArray, List.set_cons_zero, List.set_cons_succ] at hts
  subst hts
  have T856 : Below w.heap.size w v855 := T841.trans E855.below
  have l857 : q818 < v840.heap.size := b845.lt
  have l858 : q824 < v840.heap.size := b846.lt
  have l859 : q831 < v840.heap.size := b847.lt
  have b860 : Bx v855 q818 29 #[.bool na0, .slice A0 n0 c0, .bool nb0, .slice B0 m0 d0] := (E855.far q818 b845.lt (by simp)).trans b845
  have b861 : Bx v855 q824 29 #[.bool na1, .slice A1 n1 c1, .bool nb1, .slice B1 m1 d1] := (E855.far q824 b846.lt (by simp)).trans b846
  have b862 : Bx v855 q831 29 #[.bool false, .slice none 0 0, .bool false, .slice none 0 0] := (E855.far q831 b847.lt (by simp)).trans b847
  have e867 : g855 1 = (.bool true) := E855.facts 1 (by decide)
  refine then_normal ?_
  refine wp_cond_true e867 ?_
  refine wp_seq ?_
  have HB : w.heap.size ≤ v855.heap.size := T856.size
  refine wp_plan_seq [.val (.is (.agg #[.bool false, .slice none 0 0, .bool false, .slice none 0 0])), .val (.is (.int .i64 30)), .put 4 13, .val (.is (.int .i64 30))] [4] [q831] w.heap.size (by kernel_rfl) (by kernel_rfl) ⟨p832, b862.lt, (by simp), trivial⟩ HB ?_ ?_
  · exact ⟨fun s v h => does_val rfl rfl (x_build_r0) rfl,
      fun s v h => does_val rfl rfl (x_move) ((h.same 6 rfl).trans e854),
      fun s v h => does_put_r rfl rfl ((h.same 4 rfl).trans p832) ⟨_, _, _, _, _, _, _, _, (h.dep 0 rfl)⟩ (h.mono.ok _ _ b862.ok4) h837,
      fun s v h => does_val rfl rfl (x_assign) (h.dep 1 rfl), trivial⟩
  intro g868 ts v868 hts E868
  simp only [fillL, Nat.reduceAdd, List.setIfInBounds_toArray, List.set_cons_zero, List.set_cons_succ] at hts
  subst hts
  have T869 : Below w.heap.size w v868 := T856.trans E868.below
  have l870 : q818 < v855.heap.size := b860.lt
  have l871 : q824 < v855.heap.size := b861.lt
  have l872 : q831 < v855.heap.size := b862.lt
  have e878 : g868 0 = (.agg #[.bool false, .slice none 0 0, .bool false, .slice none 0 0]) := E868.facts 0 (by decide)
  have e880 : g868 3 = (.int .i64 30) := E868.facts 3 (by decide)
  obtain ⟨t881, b882⟩ := put_lit (E868.facts 2 (by decide)) p832 e878
  have f883 : ((.pair (.cz 0) (.cz 0)) : Known).p v868 (.agg #[.bool false, .slice none 0 0, .bool false, .slice none 0 0]) := rat_zero _
  refine then_normal ?_
  refine wp_ret ?_
  exact bodyPost_ret (ret_rt rfl p832 b882) rfl ⟨_, rfl, ⟨_, _, rfl, f883, e880⟩, T869⟩

set_option maxHeartbeats 4000000 in
set_option maxRecDepth 8000 in
theorem qcmp_k {w : World} {x : Value} {p q : Int} {N0 : Nat} (h0 : Rz N0 w x p q) {y : Value} {p1 q1 : Int} {N1 : Nat} (h1 : Rz N1 w y p1 q1) (hN0 : N0 ≤ 100000000) (hN1 : N1 ≤ 100000000) (dv : (decide (q.sign ≤ 0) || decide (q1.sign ≤ 0)) = false)  : Calls Try.prog 20 #[x, y] w (Ret (.tup2 (.is (.int .i64 ((p * q1) - (p1 * q)).sign)) (.is (.int .i64 0))) w) := by
  obtain ⟨na0, A0, n0, c0, nb0, B0, m0, d0, e0r, hx0, hy0⟩ := Rz.parts h0
  subst e0r
  have la0 := hx0.len
  have lb0 := hy0.len
  obtain ⟨na1, A1, n1, c1, nb1, B1, m1, d1, e1r, hx1, hy1⟩ := Rz.parts h1
  subst e1r
  have la1 := hx1.len
  have lb1 := hy1.len
  have T0 : Below w.heap.size w w := Below.refl _ _
  go_enter Try.func20, Try.ntmps20
  refine wp_seq ?_
  have HB : w.heap.size ≤ w.heap.size := T0.size
  refine wp_plan_seq [.new 4 (some (29, #[.bool na0, .slice A0 n0 c0, .bool nb0, .slice B0 m0 d0])), .new 4 (some (29, #[.bool na1, .slice A1 n1 c1, .bool nb1, .slice B1 m1 d1])), .val (.is (.int .i64 0)), .val (.is (.int .i64 0))] [] [] w.heap.size (by kernel_rfl) (by kernel_rfl) trivial HB ?_ ?_
  · exact ⟨fun s v h => does_new rfl rfl (x_box_r (h.same 0 rfl)) (okr _ _ _ _ _ _ _ _) rfl (.inr rfl),
      fun s v h => does_new rfl rfl (x_box_r (h.same 1 rfl)) (okr _ _ _ _ _ _ _ _) rfl (.inr rfl),
      fun s v h => does_val rfl rfl (x_assign) rfl,
      fun s v h => does_val rfl rfl (x_assign) rfl, trivial⟩
  intro g884 ts v884 hts E884
  simp only [fillL, Nat.reduceAdd, List.setIfInBounds_toArray, List.set_cons_zero, List.set_cons_succ] at hts
  subst hts
  have T885 : Below w.heap.size w v884 := T0.trans E884.below
  have f886 := (pair_mono h0 E884.mono)
  have f887 := (pair_mono h1 E884.mono)
  obtain ⟨q890, p891, l892, o893, b894⟩ : ∃ q, g884 0 = .pointer (some ⟨q, 0, none⟩) ∧ w.heap.size ≤ q ∧ OkB v884 q 4 ∧ Bx v884 q 29 #[.bool na0, .slice A0 n0 c0, .bool nb0, .slice B0 m0 d0] := E884.facts 0 (by decide)
  have h895 : w.heap.size ≤ q890 := Nat.le_trans HB l892
  obtain ⟨q896, p897, l898, o899, b900⟩ : ∃ q, g884 1 = .pointer (some ⟨q, 0, none⟩) ∧ w.heap.size ≤ q ∧ OkB v884 q 4 ∧ Bx v884 q 29 #[.bool na1, .slice A1 n1 c1, .bool nb1, .slice B1 m1 d1] := E884.facts 1 (by decide)
  have h901 : w.heap.size ≤ q896 := Nat.le_trans HB l898
  refine then_normal ?_
  refine wp_seq ?_
  refine wp_seq ?_
  have HB : w.heap.size ≤ v884.heap.size := T885.size
  refine wp_plan_seq [.val (.is (.agg #[.bool na0, .slice A0 n0 c0, .bool nb0, .slice B0 m0 d0])), .val (.is (.agg #[.bool na1, .slice A1 n1 c1, .bool nb1, .slice B1 m1 d1])), .new 8 (some (29, #[.bool na0, .slice A0 n0 c0, .bool nb0, .slice B0 m0 d0, .bool na1, .slice A1 n1 c1, .bool nb1, .slice B1 m1 d1])) (some 2), .val (.is (.int .i64 0)), .val (.is (.int .i64 0))] [] [] w.heap.size (by kernel_rfl) (by kernel_rfl) trivial HB ?_ ?_
  · exact ⟨fun s v h => does_val rfl rfl (x_load_r ((h.same 2 rfl).trans p891) ((h.far q890 b894.lt (by simp)).trans b894)) rfl,
      fun s v h => does_val rfl rfl (x_load_r ((h.same 3 rfl).trans p897) ((h.far q896 b900.lt (by simp)).trans b900)) rfl,
      fun s v h => does_row rfl rfl (x_row2 (h.dep 0 rfl) (h.dep 1 rfl)) (okr8 _ _ _ _ _ _ _ _ _ _ _ _ _ _ _ _ ) rfl,
      fun s v h => does_call rfl rfl (x_call1 Try.call41) (valid2_k (h.dep 2 rfl) (pair_mono f886 h.mono) (pair_mono f887 h.mono) dv),
      fun s v h => does_val rfl rfl (x_assign) (h.dep 3 rfl), trivial⟩
  intro g903 ts v903 hts E903
  simp only [fillL, Nat.reduceAdd, List.setIfInBounds_toArray, List.set_cons_zero, List.set_cons_succ] at hts
  subst hts
  have T904 : Below w.heap.size w v903 := T885.trans E903.below
  have l905 : q890 < v884.heap.size := b894.lt
  have l906 : q896 < v884.heap.size := b900.lt
  have b907 : Bx v903 q890 29 #[.bool na0, .slice A0 n0 c0, .bool nb0, .slice B0 m0 d0] := (E903.far q890 b894.lt (by simp)).trans b894
  have b908 : Bx v903 q896 29 #[.bool na1, .slice A1 n1 c1, .bool nb1, .slice B1 m1 d1] := (E903.far q896 b900.lt (by simp)).trans b900
  have f909 := (pair_mono f886 E903.mono)
  have f910 := (pair_mono f887 E903.mono)
  have e914 : g903 4 = (.int .i64 0) := E903.facts 4 (by decide)
  refine then_normal ?_
  refine wp_seq ?_
  have HB : w.heap.size ≤ v903.heap.size := T904.size
  refine wp_plan_seq [.val (.is (.int .i64 0)), .val (.is (.bool false))] [] [] w.heap.size (by kernel_rfl) (by kernel_rfl) trivial HB ?_ ?_
  · exact ⟨fun s v h => does_val rfl rfl (x_move) ((h.same 6 rfl).trans e914),
      fun s v h => does_val rfl rfl (x_neq_err (h.dep 0 rfl) rfl) rfl, trivial⟩
  intro g915 ts v915 hts E915
  simp only [fillL, Nat.reduceAdd, List.setIfInBounds_toArray, List.set_cons_zero, List.set_cons_succ] at hts
  subst hts
  have T916 : Below w.heap.size w v915 := T904.trans E915.below
  have l917 : q890 < v903.heap.size := b907.lt
  have l918 : q896 < v903.heap.size := b908.lt
  have b919 : Bx v915 q890 29 #[.bool na0, .slice A0 n0 c0, .bool nb0, .slice B0 m0 d0] := (E915.far q890 b907.lt (by simp)).trans b907
  have b920 : Bx v915 q896 29 #[.bool na1, .slice A1 n1 c1, .bool nb1, .slice B1 m1 d1] := (E915.far q896 b908.lt (by simp)).trans b908
  have f921 := (pair_mono f909 E915.mono)
  have f922 := (pair_mono f910 E915.mono)
  have e924 : g915 1 = (.bool false) := E915.facts 1 (by decide)
  refine then_normal ?_
  refine wp_cond_false e924 ?_
  refine wp_skip ?_
  refine then_normal ?_
  refine wp_seq ?_
  have HB : w.heap.size ≤ v915.heap.size := T916.size
  refine wp_plan_any [.val (.is (.pointer (some ⟨q890, 0, none⟩))), .val (.az N0 p), .val (.is (.pointer (some ⟨q896, 2, none⟩))), .val (.az N1 q1), .val (.cz (p * q1)), .val (.is (.pointer (some ⟨q896, 0, none⟩))), .val (.az N1 p1), .val (.is (.pointer (some ⟨q890, 2, none⟩))), .val (.az N0 q), .val (.cz (p1 * q)), .val (.is (.int .i64 ((p * q1) - (p1 * q)).sign)), .val (.is (.int .i64 ((p * q1) - (p1 * q)).sign)), .val (.is (.int .i64 0))] [] [] w.heap.size (by kernel_rfl) (by kernel_rfl) (by kernel_rfl) trivial HB ?_ ?_
  · exact ⟨fun s v h => does_val rfl rfl (x_fld_r0 ((h.same 2 rfl).trans p891)) rfl,
      fun s v h => does_val rfl rfl (x_load_r0 (h.dep 0 rfl) ((h.far q890 b919.lt (by simp)).trans b919)) (pair_fst (pair_mono f921 ((Mono.drew _).trans h.mono))),
      fun s v h => does_val rfl rfl (x_fld_r1 ((h.same 3 rfl).trans p897)) rfl,
      fun s v h => does_val rfl rfl (x_load_r1 (h.dep 2 rfl) ((h.far q896 b920.lt (by simp)).trans b920)) (pair_snd (pair_mono f922 ((Mono.drew _).trans h.mono))),
      fun s v h => does_call rfl rfl (x_call2 Try.call55) (mul_k (h.dep 1 rfl) (h.dep 3 rfl) (by omega) (by omega)),
      fun s v h => does_val rfl rfl (x_fld_r0 ((h.same 3 rfl).trans p897)) rfl,
      fun s v h => does_val rfl rfl (x_load_r0 (h.dep 5 rfl) ((h.far q896 b920.lt (by simp)).trans b920)) (pair_fst (pair_mono f922 ((Mono.drew _).trans h.mono))),
      fun s v h => does_val rfl rfl (x_fld_r1 ((h.same 2 rfl).trans p891)) rfl,
      fun s v h => does_val rfl rfl (x_load_r1 (h.dep 7 rfl) ((h.far q890 b919.lt (by simp)).trans b919)) (pair_snd (pair_mono f921 ((Mono.drew _).trans h.mono))),
      fun s v h => does_call rfl rfl (x_call2 Try.call55) (mul_k (h.dep 6 rfl) (h.dep 8 rfl) (by omega) (by omega)),
      fun s v h => does_call rfl rfl (x_call2 Try.call54) (zcmp_k ((h.dep 4 rfl).az (N := (N0 + N1)) (len_mul la0 lb1)) ((h.dep 9 rfl).az (N := (N1 + N0)) (len_mul la1 lb0))),
      fun s v h => does_val rfl rfl (x_assign) (h.dep 10 rfl),
      fun s v h => does_val rfl rfl (x_assign) rfl, trivial⟩
  intro g925 ts v925 hts E925
  simp only [fillL, Nat.reduceAdd, List.setIfInBounds_toArray, List.set_cons_zero, List.set_cons_succ] at hts
  subst hts
  have T926 : Below w.heap.size w v925 := (below_toDrew T916).trans E925.below
  have l927 : q890 < v915.heap.size := b919.lt
  have l928 : q896 < v915.heap.size := b920.lt
  have e940 : g925 11 = (.int .i64 ((p * q1) - (p1 * q)).sign) := E925.facts 11 (by decide)
  have e941 : g925 12 = (.int .i64 0) := E925.facts 12 (by decide)
  refine then_normal ?_
  refine wp_ret ?_
  exact bodyPost_ret (results_tmp2 (t := 4) (u := 5) rfl _ _ _) rfl ⟨_, rfl, ⟨_, _, rfl, e940, e941⟩, T926⟩

set_option maxHeartbeats 4000000 in
set_option maxRecDepth 8000 in
theorem qcmp_b {w : World} {x : Value} {p q : Int} {N0 : Nat} (h0 : Rz N0 w x p q) {y : Value} {p1 q1 : Int} {N1 : Nat} (h1 : Rz N1 w y p1 q1) (dv : (decide (q.sign ≤ 0) || decide (q1.sign ≤ 0)) = true)  : Calls Try.prog 20 #[x, y] w (Ret (.tup2 (.is (.int .i64 0)) (.is (.int .i64 30))) w) := by
  obtain ⟨na0, A0, n0, c0, nb0, B0, m0, d0, e0r, hx0, hy0⟩ := Rz.parts h0
  subst e0r
  have la0 := hx0.len
  have lb0 := hy0.len
  obtain ⟨na1, A1, n1, c1, nb1, B1, m1, d1, e1r, hx1, hy1⟩ := Rz.parts h1
  subst e1r
  have la1 := hx1.len
  have lb1 := hy1.len
  have T0 : Below w.heap.size w w := Below.refl _ _
  go_enter Try.func20, Try.ntmps20
  refine wp_seq ?_
  have HB : w.heap.size ≤ w.heap.size := T0.size
  refine wp_plan_seq [.new 4 (some (29, #[.bool na0, .slice A0 n0 c0, .bool nb0, .slice B0 m0 d0])), .new 4 (some (29, #[.bool na1, .slice A1 n1 c1, .bool nb1, .slice B1 m1 d1])), .val (.is (.int .i64 0)), .val (.is (.int .i64 0))] [] [] w.heap.size (by kernel_rfl) (by kernel_rfl) trivial HB ?_ ?_
  · exact ⟨fun s v h => does_new rfl rfl (x_box_r (h.same 0 rfl)) (okr _ _ _ _ _ _ _ _) rfl (.inr rfl),
      fun s v h => does_new rfl rfl (x_box_r (h.same 1 rfl)) (okr _ _ _ _ _ _ _ _) rfl (.inr rfl),
      fun s v h => does_val rfl rfl (x_assign) rfl,
      fun s v h => does_val rfl rfl (x_assign) rfl, trivial⟩
  intro g942 ts v942 hts E942
  simp only [fillL, Nat.reduceAdd, List.setIfInBounds_toArray, List.set_cons_zero, List.set_cons_succ] at hts
  subst hts
  have T943 : Below w.heap.size w v942 := T0.trans E942.below
  have f944 := (pair_mono h0 E942.mono)
  have f945 := (pair_mono h1 E942.mono)
  obtain ⟨q948, p949, l950, o951, b952⟩ : ∃ q, g942 0 = .pointer (some ⟨q, 0, none⟩) ∧ w.heap.size ≤ q ∧ OkB v942 q 4 ∧ Bx v942 q 29 #[.bool na0, .slice A0 n0 c0, .bool nb0, .slice B0 m0 d0] := E942.facts 0 (by decide)
  have h953 : w.heap.size ≤ q948 := Nat.le_trans HB l950
  obtain ⟨q954, p955, l956, o957, b958⟩ : ∃ q, g942 1 = .pointer (some ⟨q, 0, none⟩) ∧ w.heap.size ≤ q ∧ OkB v942 q 4 ∧ Bx v942 q 29 #[.bool na1, .slice A1 n1 c1, .bool nb1, .slice B1 m1 d1] := E942.facts 1 (by decide)
  have h959 : w.heap.size ≤ q954 := Nat.le_trans HB l956
  refine then_normal ?_
  refine wp_seq ?_
  refine wp_seq ?_
  have HB : w.heap.size ≤ v942.heap.size := T943.size
  refine wp_plan_seq [.val (.is (.agg #[.bool na0, .slice A0 n0 c0, .bool nb0, .slice B0 m0 d0])), .val (.is (.agg #[.bool na1, .slice A1 n1 c1, .bool nb1, .slice B1 m1 d1])), .new 8 (some (29, #[.bool na0, .slice A0 n0 c0, .bool nb0, .slice B0 m0 d0, .bool na1, .slice A1 n1 c1, .bool nb1, .slice B1 m1 d1])) (some 2), .val (.is (.int .i64 30)), .val (.is (.int .i64 30))] [] [] w.heap.size (by kernel_rfl) (by kernel_rfl) trivial HB ?_ ?_
  · exact ⟨fun s v h => does_val rfl rfl (x_load_r ((h.same 2 rfl).trans p949) ((h.far q948 b952.lt (by simp)).trans b952)) rfl,
      fun s v h => does_val rfl rfl (x_load_r ((h.same 3 rfl).trans p955) ((h.far q954 b958.lt (by simp)).trans b958)) rfl,
      fun s v h => does_row rfl rfl (x_row2 (h.dep 0 rfl) (h.dep 1 rfl)) (okr8 _ _ _ _ _ _ _ _ _ _ _ _ _ _ _ _ ) rfl,
      fun s v h => does_call rfl rfl (x_call1 Try.call41) (valid2_k (h.dep 2 rfl) (pair_mono f944 h.mono) (pair_mono f945 h.mono) dv),
      fun s v h => does_val rfl rfl (x_assign) (h.dep 3 rfl), trivial⟩
  intro g961 ts v961 hts E961
  simp only [fillL, Nat.reduceAdd, List.setIfInBounds_toArray, List.set_cons_zero, List.set_cons_succ] at hts
  subst hts
  have T962 : Below w.heap.size w v961 := T943.trans E961.below
  have l963 : q948 < v942.heap.size := b952.lt
  have l964 : q954 < v942.heap.size := b958.lt
  have b965 : Bx v961 q948 29 #[.bool na0, .slice A0 n0 c0, .bool nb0, .slice B0 m0 d0] := (E961.far q948 b952.lt (by simp)).trans b952
  have b966 : Bx v961 q954 29 #[.bool na1, .slice A1 n1 c1, .bool nb1, .slice B1 m1 d1] := (E961.far q954 b958.lt (by simp)).trans b958
  have e972 : g961 4 = (.int .i64 30) := E961.facts 4 (by decide)
  refine then_normal ?_
  refine wp_seq ?_
  have HB : w.heap.size ≤ v961.heap.size := T962.size
  refine wp_plan_seq [.val (.is (.int .i64 30)), .val (.is (.bool true))] [] [] w.heap.size (by kernel_rfl) (by kernel_rfl) trivial HB ?_ ?_
  · exact ⟨fun s v h => does_val rfl rfl (x_move) ((h.same 6 rfl).trans e972),
      fun s v h => does_val rfl rfl (x_neq_err (h.dep 0 rfl) rfl) rfl, trivial⟩
  intro g973 ts v973 hts E973
  simp only [fillL, Nat.reduceAdd, List.setIfInBounds_toArray, List.set_cons_zero, List.set_cons_succ] at hts
  subst hts
  have T974 : Below w.heap.size w v973 := T962.trans E973.below
  have l975 : q948 < v961.heap.size := b965.lt
  have l976 : q954 < v961.heap.size := b966.lt
  have b977 : Bx v973 q948 29 #[.bool na0, .slice A0 n0 c0, .bool nb0, .slice B0 m0 d0] := (E973.far q948 b965.lt (by simp)).trans b965
  have b978 : Bx v973 q954 29 #[.bool na1, .slice A1 n1 c1, .bool nb1, .slice B1 m1 d1] := (E973.far q954 b966.lt (by simp)).trans b966
  have e982 : g973 1 = (.bool true) := E973.facts 1 (by decide)
  refine then_normal ?_
  refine wp_cond_true e982 ?_
  refine wp_seq ?_
  have HB : w.heap.size ≤ v973.heap.size := T974.size
  refine wp_plan_seq [.val (.is (.int .i64 30)), .val (.is (.int .i64 0)), .val (.is (.int .i64 30))] [] [] w.heap.size (by kernel_rfl) (by kernel_rfl) trivial HB ?_ ?_
  · exact ⟨fun s v h => does_val rfl rfl (x_move) ((h.same 6 rfl).trans e972),
      fun s v h => does_val rfl rfl (x_assign) rfl,
      fun s v h => does_val rfl rfl (x_assign) (h.dep 0 rfl), trivial⟩
  intro g983 ts v983 hts E983
  simp only [fillL, Nat.reduceAdd, List.setIfInBounds_toArray, List.set_cons_zero, List.set_cons_succ] at hts
  subst hts
  have T984 : Below w.heap.size w v983 := T974.trans E983.below
  have l985 : q948 < v973.heap.size := b977.lt
  have l986 : q954 < v973.heap.size := b978.lt
  have e992 : g983 1 = (.int .i64 0) := E983.facts 1 (by decide)
  have e993 : g983 2 = (.int .i64 30) := E983.facts 2 (by decide)
  refine then_normal ?_
  refine wp_ret ?_
  exact bodyPost_ret (results_tmp2 (t := 4) (u := 5) rfl _ _ _) rfl ⟨_, rfl, ⟨_, _, rfl, e992, e993⟩, T984⟩

set_option maxHeartbeats 4000000 in
set_option maxRecDepth 8000 in
theorem qfloor_k {w : World} {x : Value} {p q : Int} {N0 : Nat} (h0 : Rz N0 w x p q) (hN0 : N0 ≤ 100000000) (hq : q ≠ 0) (dv : (decide (q.sign ≤ 0)) = false)  : Calls Try.prog 12 #[x] w (Ret (.tup2 (.cz (fl p q)) (.is (.int .i64 0))) w) := by
  obtain ⟨na0, A0, n0, c0, nb0, B0, m0, d0, e0r, hx0, hy0⟩ := Rz.parts h0
  subst e0r
  have la0 := hx0.len
  have lb0 := hy0.len
  have T0 : Below w.heap.size w w := Below.refl _ _
  go_enter Try.func12, Try.ntmps12
  refine wp_seq ?_
  have HB : w.heap.size ≤ w.heap.size := T0.size
  refine wp_plan_seq [.new 4 (some (29, #[.bool na0, .slice A0 n0 c0, .bool nb0, .slice B0 m0 d0])), .new 2 (some (24, #[.bool false, .slice none 0 0])), .val (.is (.int .i64 0))] [] [] w.heap.size (by kernel_rfl) (by kernel_rfl) trivial HB ?_ ?_
  · exact ⟨fun s v h => does_new rfl rfl (x_box_r (h.same 0 rfl)) (okr _ _ _ _ _ _ _ _) rfl (.inr rfl),
      fun s v h => does_new rfl rfl x_alloc_z (okz _ _ _ _) rfl (.inr rfl),
      fun s v h => does_val rfl rfl (x_assign) rfl, trivial⟩
  intro g994 ts v994 hts E994
  simp only [fillL, Nat.reduceAdd, List.setIfInBounds_toArray, List.set_cons_zero, List.set_cons_succ] at hts
  subst hts
  have T995 : Below w.heap.size w v994 := T0.trans E994.below
  have f996 := (pair_mono h0 E994.mono)
  obtain ⟨q998, p999, l1000, o1001, b1002⟩ : ∃ q, g994 0 = .pointer (some ⟨q, 0, none⟩) ∧ w.heap.size ≤ q ∧ OkB v994 q 4 ∧ Bx v994 q 29 #[.bool na0, .slice A0 n0 c0, .bool nb0, .slice B0 m0 d0] := E994.facts 0 (by decide)
  have h1003 : w.heap.size ≤ q998 := Nat.le_trans HB l1000
  obtain ⟨q1004, p1005, l1006, o1007, b1008⟩ : ∃ q, g994 1 = .pointer (some ⟨q, 0, none⟩) ∧ w.heap.size ≤ q ∧ OkB v994 q 2 ∧ Bx v994 q 24 #[.bool false, .slice none 0 0] := E994.facts 1 (by decide)
  have h1010 : w.heap.size ≤ q1004 := Nat.le_trans HB l1006
  refine then_normal ?_
  refine wp_seq ?_
  refine wp_seq ?_
  have HB : w.heap.size ≤ v994.heap.size := T995.size
  refine wp_plan_seq [.val (.is (.agg #[.bool na0, .slice A0 n0 c0, .bool nb0, .slice B0 m0 d0])), .new 4 (some (29, #[.bool na0, .slice A0 n0 c0, .bool nb0, .slice B0 m0 d0])) (some 1), .val (.is (.int .i64 0)), .val (.is (.int .i64 0))] [] [] w.heap.size (by kernel_rfl) (by kernel_rfl) trivial HB ?_ ?_
  · exact ⟨fun s v h => does_val rfl rfl (x_load_r ((h.same 1 rfl).trans p999) ((h.far q998 b1002.lt (by simp)).trans b1002)) rfl,
      fun s v h => does_row rfl rfl (x_row1 (h.dep 0 rfl)) (okr _ _ _ _ _ _ _ _) rfl,
      fun s v h => does_call rfl rfl (x_call1 Try.call41) (valid1_k (h.dep 1 rfl) (pair_mono f996 h.mono) dv),
      fun s v h => does_val rfl rfl (x_assign) (h.dep 2 rfl), trivial⟩
  intro g1012 ts v1012 hts E1012
  simp only [fillL, Nat.reduceAdd, List.setIfInBounds_toArray, List.set_cons_zero, List.set_cons_succ] at hts
  subst hts
  have T1013 : Below w.heap.size w v1012 := T995.trans E1012.below
  have l1014 : q998 < v994.heap.size := b1002.lt
  have l1015 : q1004 < v994.heap.size := b1008.lt
  have b1016 : Bx v1012 q998 29 #[.bool na0, .slice A0 n0 c0, .bool nb0, .slice B0 m0 d0] := (E1012.far q998 b1002.lt (by simp)).trans b1002
  have b1017 : Bx v1012 q1004 24 #[.bool false, .slice none 0 0] := (E1012.far q1004 b1008.lt (by simp)).trans b1008
  have f1018 := (pair_mono f996 E1012.mono)
  have e1022 : g1012 3 = (.int .i64 0) := E1012.facts 3 (by decide)
  refine then_normal ?_
  refine wp_seq ?_
  have HB : w.heap.size ≤ v1012.heap.size := T1013.size
  refine wp_plan_seq [.val (.is (.int .i64 0)), .val (.is (.bool false))] [] [] w.heap.size (by kernel_rfl) (by kernel_rfl) trivial HB ?_ ?_
  · exact ⟨fun s v h => does_val rfl rfl (x_move) ((h.same 4 rfl).trans e1022),
      fun s v h => does_val rfl rfl (x_neq_err (h.dep 0 rfl) rfl) rfl, trivial⟩
  intro g1023 ts v1023 hts E1023
  simp only [fillL, Nat.reduceAdd, List.setIfInBounds_toArray, List.set_cons_zero, List.set_cons_succ] at hts
  subst hts
  have T1024 : Below w.heap.size w v1023 := T1013.trans E1023.below
  have l1025 : q998 < v1012.heap.size := b1016.lt
  have l1026 : q1004 < v1012.heap.size := b1017.lt
  have b1027 : Bx v1023 q998 29 #[.bool na0, .slice A0 n0 c0, .bool nb0, .slice B0 m0 d0] := (E1023.far q998 b1016.lt (by simp)).trans b1016
  have b1028 : Bx v1023 q1004 24 #[.bool false, .slice none 0 0] := (E1023.far q1004 b1017.lt (by simp)).trans b1017
  have f1029 := (pair_mono f1018 E1023.mono)
  have e1032 : g1023 1 = (.bool false) := E1023.facts 1 (by decide)
  refine then_normal ?_
  refine wp_cond_false e1032 ?_
  refine wp_skip ?_
  refine then_normal ?_
  refine wp_seq ?_
  have HB : w.heap.size ≤ v1023.heap.size := T1024.size
  refine wp_plan_seq [.val (.is (.pointer (some ⟨q998, 0, none⟩))), .val (.az N0 p), .val (.is (.pointer (some ⟨q998, 2, none⟩))), .val (.az N0 q), .val (.tup3 (.cz (fl p q)) (.cz (md p q)) (.is (.int .i64 0))), .val (.tup3 (.cz (fl p q)) (.cz (md p q)) (.is (.int .i64 0))), .val (.cz (fl p q)), .val (.cz (md p q)), .val (.is (.int .i64 0)), .new 2 none, .new 2 none, .put 5 21, .put 6 22, .val (.is (.int .i64 0))] [] [] w.heap.size (by kernel_rfl) (by kernel_rfl) trivial HB ?_ ?_
  · exact ⟨fun s v h => does_val rfl rfl (x_fld_r0 ((h.same 1 rfl).trans p999)) rfl,
      fun s v h => does_val rfl rfl (x_load_r0 (h.dep 0 rfl) ((h.far q998 b1027.lt (by simp)).trans b1027)) (pair_fst (pair_mono f1029 h.mono)),
      fun s v h => does_val rfl rfl (x_fld_r1 ((h.same 1 rfl).trans p999)) rfl,
      fun s v h => does_val rfl rfl (x_load_r1 (h.dep 2 rfl) ((h.far q998 b1027.lt (by simp)).trans b1027)) (pair_snd (pair_mono f1029 h.mono)),
      fun s v h => does_call rfl rfl (x_call2 Try.call42) (zfloor_k (h.dep 1 rfl) (h.dep 3 rfl) (by omega) (by omega) hq),
      fun s v h => does_val rfl rfl (x_move) (h.dep 4 rfl),
      fun s v h => by obtain ⟨r0, r1, r2, e, f0, f1, f2⟩ := tup3_at (h.dep 5 rfl); exact does_val rfl rfl (x_ext e rfl) f0,
      fun s v h => by obtain ⟨r0, r1, r2, e, f0, f1, f2⟩ := tup3_at (h.dep 5 rfl); exact does_val rfl rfl (x_ext e rfl) f1,
      fun s v h => by obtain ⟨r0, r1, r2, e, f0, f1, f2⟩ := tup3_at (h.dep 5 rfl); exact does_val rfl rfl (x_ext e rfl) f2,
      fun s v h => does_new rfl rfl x_alloc_z (okz _ _ _ _) rfl (.inl rfl),
      fun s v h => does_new rfl rfl x_alloc_z (okz _ _ _ _) rfl (.inl rfl),
      fun s v h => by obtain ⟨q, e1, e2, e3⟩ := new_at (h.dep 9 rfl); exact does_put_z rfl rfl e1 (h.dep 6 rfl).shape e3 (Nat.le_trans HB e2),
      fun s v h => by obtain ⟨q, e1, e2, e3⟩ := new_at (h.dep 10 rfl); exact does_put_z rfl rfl e1 (h.dep 7 rfl).shape e3 (Nat.le_trans HB e2),
      fun s v h => does_val rfl rfl (x_assign) (h.dep 8 rfl), trivial⟩
  intro g1033 ts v1033 hts E1033
  simp only [fillL, Nat.reduceAdd, List.setIfInBounds_toArray, List.set_cons_zero, List.set_cons_succ] at hts
  subst hts
  have T1034 : Below w.heap.size w v1033 := T1024.trans E1033.below
  have l1035 : q998 < v1023.heap.size := b1027.lt
  have l1036 : q1004 < v1023.heap.size := b1028.lt
  have b1037 : Bx v1033 q998 29 #[.bool na0, .slice A0 n0 c0, .bool nb0, .slice B0 m0 d0] := (E1033.far q998 b1027.lt (by simp)).trans b1027
  have b1038 : Bx v1033 q1004 24 #[.bool false, .slice none 0 0] := (E1033.far q1004 b1028.lt (by simp)).trans b1028
  have f1043 : Cz v1033 (g1033 6) (fl p q) := E1033.facts 6 (by decide)
  have f1044 : Cz v1033 (g1033 7) (md p q) := E1033.facts 7 (by decide)
  obtain ⟨q1047, p1048, l1049, o1050⟩ : ∃ q, g1033 9 = .pointer (some ⟨q, 0, none⟩) ∧ v1023.heap.size ≤ q ∧ OkB v1033 q 2 := E1033.facts 9 (by decide)
  have h1051 : w.heap.size ≤ q1047 := Nat.le_trans HB l1049
  have n1053 : q1004 ≠ q1047 := by omega
  obtain ⟨q1054, p1055, l1056, o1057⟩ : ∃ q, g1033 10 = .pointer (some ⟨q, 0, none⟩) ∧ v1023.heap.size ≤ q ∧ OkB v1033 q 2 := E1033.facts 10 (by decide)
  have h1058 : w.heap.size ≤ q1054 := Nat.le_trans HB l1056
  obtain ⟨t1062, x1064, A1065, m1066, c1067, e1068, b1063⟩ := put_info (E1033.facts 11 (by decide)) p1048 f1043.shape
  have f1069 : Cz v1033 (.agg #[.bool x1064, .slice A1065 m1066 c1067]) (fl p q) := f1043.at e1068.symm
  obtain ⟨t1070, x1072, A1073, m1074, c1075, e1076, b1071⟩ := put_info (E1033.facts 12 (by decide)) p1055 f1044.shape
  refine then_normal ?_
  refine wp_seq ?_
  have HB : w.heap.size ≤ v1033.heap.size := T1034.size
  refine wp_plan_seq [.val (.cz (fl p q)), .put 2 24, .val (.is (.int .i64 0))] [2] [q1004] w.heap.size (by kernel_rfl) (by kernel_rfl) ⟨p1005, b1038.lt, (by simp), trivial⟩ HB ?_ ?_
  · exact ⟨fun s v h => does_val rfl rfl (x_load_z ((h.same 5 rfl).trans p1048) ((h.far q1047 b1063.lt (nin1 n1053.symm)).trans b1063)) (f1069.mono h.mono),
      fun s v h => does_put_z rfl rfl ((h.same 2 rfl).trans p1005) (h.dep 0 rfl).shape (h.mono.ok _ _ b1038.ok2) h1010,
      fun s v h => does_val rfl rfl (x_assign) rfl, trivial⟩
  intro g1078 ts v1078 hts E1078
  simp only [fillL, Nat.reduceAdd, List.setIfInBounds_toArray, List.set_cons_zero, List.set_cons_succ] at hts
  subst hts
  have T1079 : Below w.heap.size w v1078 := T1034.trans E1078.below
  have l1080 : q998 < v1033.heap.size := b1037.lt
  have l1081 : q1004 < v1033.heap.size := b1038.lt
  have l1082 : q1047 < v1033.heap.size := b1063.lt
  have l1083 : q1054 < v1033.heap.size := b1071.lt
  have f1095 : Cz v1078 (g1078 0) (fl p q) := E1078.facts 0 (by decide)
  have e1096 : g1078 2 = (.int .i64 0) := E1078.facts 2 (by decide)
  obtain ⟨t1097, x1099, A1100, m1101, c1102, e1103, b1098⟩ := put_info (E1078.facts 1 (by decide)) p1005 f1095.shape
  have f1104 : Cz v1078 (.agg #[.bool x1099, .slice A1100 m1101 c1102]) (fl p q) := f1095.at e1103.symm
  refine then_normal ?_
  refine wp_ret ?_
  exact bodyPost_ret (ret_ct rfl p1005 b1098) rfl ⟨_, rfl, ⟨_, _, rfl, f1104, e1096⟩, T1079⟩

set_option maxHeartbeats 4000000 in
set_option maxRecDepth 8000 in
theorem qfloor_b {w : World} {x : Value} {p q : Int} {N0 : Nat} (h0 : Rz N0 w x p q) (dv : (decide (q.sign ≤ 0)) = true)  : Calls Try.prog 12 #[x] w (Ret (.tup2 (.cz 0) (.is (.int .i64 30))) w) := by
  obtain ⟨na0, A0, n0, c0, nb0, B0, m0, d0, e0r, hx0, hy0⟩ := Rz.parts h0
  subst e0r
  have la0 := hx0.len
  have lb0 := hy0.len
  have T0 : Below w.heap.size w w := Below.refl _ _
  go_enter Try.func12, Try.ntmps12
  refine wp_seq ?_
  have HB : w.heap.size ≤ w.heap.size := T0.size
  refine wp_plan_seq [.new 4 (some (29, #[.bool na0, .slice A0 n0 c0, .bool nb0, .slice B0 m0 d0])), .new 2 (some (24, #[.bool false, .slice none 0 0])), .val (.is (.int .i64 0))] [] [] w.heap.size (by kernel_rfl) (by kernel_rfl) trivial HB ?_ ?_
  · exact ⟨fun s v h => does_new rfl rfl (x_box_r (h.same 0 rfl)) (okr _ _ _ _ _ _ _ _) rfl (.inr rfl),
      fun s v h => does_new rfl rfl x_alloc_z (okz _ _ _ _) rfl (.inr rfl),
      fun s v h => does_val rfl rfl (x_assign) rfl, trivial⟩
  intro g1105 ts v1105 hts E1105
  simp only [fillL, Nat.reduceAdd, List.setIfInBounds_toArray, List.set_cons_zero, List.set_cons_succ] at hts
  subst hts
  have T1106 : Below w.heap.size w v1105 := T0.trans E1105.below
  have f1107 := (pair_mono h0 E1105.mono)
  obtain ⟨q1109, p1110, l1111, o1112, b1113⟩ : ∃ q, g1105 0 = .pointer (some ⟨q, 0, none⟩) ∧ w.heap.size ≤ q ∧ OkB v1105 q 4 ∧ Bx v1105 q 29 #[.bool na0, .slice A0 n0 c0, .bool nb0, .slice B0 m0 d0] := E1105.facts 0 (by decide)
  have h1114 : w.heap.size ≤ q1109 := Nat.le_trans HB l1111
  obtain ⟨q1115, p1116, l1117, o1118, b1119⟩ : ∃ q, g1105 1 = .pointer (some ⟨q, 0, none⟩) ∧ w.heap.size ≤ q ∧ OkB v1105 q 2 ∧ Bx v1105 q 24 #[.bool false, .slice none 0 0] := E1105.facts 1 (by decide)
  have h1121 : w.heap.size ≤ q1115 := Nat.le_trans HB l1117
  refine then_normal ?_
  refine wp_seq ?_
  refine wp_seq ?_
  have HB : w.heap.size ≤ v1105.heap.size := T1106.size
  refine wp_plan_seq [.val (.is (.agg #[.bool na0, .slice A0 n0 c0, .bool nb0, .slice B0 m0 d0])), .new 4 (some (29, #[.bool na0, .slice A0 n0 c0, .bool nb0, .slice B0 m0 d0])) (some 1), .val (.is (.int .i64 30)), .val (.is (.int .i64 30))] [] [] w.heap.size (by kernel_rfl) (by kernel_rfl) trivial HB ?_ ?_
  · exact ⟨fun s v h => does_val rfl rfl (x_load_r ((h.same 1 rfl).trans p1110) ((h.far q1109 b1113.lt (by simp)).trans b1113)) rfl,
      fun s v h => does_row rfl rfl (x_row1 (h.dep 0 rfl)) (okr _ _ _ _ _ _ _ _) rfl,
      fun s v h => does_call rfl rfl (x_call1 Try.call41) (valid1_k (h.dep 1 rfl) (pair_mono f1107 h.mono) dv),
      fun s v h => does_val rfl rfl (x_assign) (h.dep 2 rfl), trivial⟩
  intro g1123 ts v1123 hts E1123
  simp only [fillL, Nat.reduceAdd, List.setIfInBounds_toArray, List.set_cons_zero, List.set_cons_succ] at hts
  subst hts
  have T1124 : Below w.heap.size w v1123 := T1106.trans E1123.below
  have l1125 : q1109 < v1105.heap.size := b1113.lt
  have l1126 : q1115 < v1105.heap.size := b1119.lt
  have b1127 : Bx v1123 q1109 29 #[.bool na0, .slice A0 n0 c0, .bool nb0, .slice B0 m0 d0] := (E1123.far q1109 b1113.lt (by simp)).trans b1113
  have b1128 : Bx v1123 q1115 24 #[.bool false, .slice none 0 0] := (E1123.far q1115 b1119.lt (by simp)).trans b1119
  have e1133 : g1123 3 = (.int .i64 30) := E1123.facts 3 (by decide)
  refine then_normal ?_
  refine wp_seq ?_
  have HB : w.heap.size ≤ v1123.heap.size := T1124.size
  refine wp_plan_seq [.val (.is (.int .i64 30)), .val (.is (.bool true))] [] [] w.heap.size (by kernel_rfl) (by kernel_rfl) trivial HB ?_ ?_
  · exact ⟨fun s v h => does_val rfl rfl (x_move) ((h.same 4 rfl).trans e1133),
      fun s v h => does_val rfl rfl (x_neq_err (h.dep 0 rfl) rfl) rfl, trivial⟩
  intro g1134 ts v1134 hts E1134
  simp only [fillL, Nat.reduceAdd, List.setIfInBounds_toArray, List.set_cons_zero, List.set_cons_succ] at hts
  subst hts
  have T1135 : Below w.heap.size w v1134 := T1124.trans E1134.below
  have l1136 : q1109 < v1123.heap.size := b1127.lt
  have l1137 : q1115 < v1123.heap.size := b1128.lt
  have b1138 : Bx v1134 q1109 29 #[.bool na0, .slice A0 n0 c0, .bool nb0, .slice B0 m0 d0] := (E1134.far q1109 b1127.lt (by simp)).trans b1127
  have b1139 : Bx v1134 q1115 24 #[.bool false, .slice none 0 0] := (E1134.far q1115 b1128.lt (by simp)).trans b1128
  have e1143 : g1134 1 = (.bool true) := E1134.facts 1 (by decide)
  refine then_normal ?_
  refine wp_cond_true e1143 ?_
  refine wp_seq ?_
  have HB : w.heap.size ≤ v1134.heap.size := T1135.size
  refine wp_plan_seq [.val (.is (.agg #[.bool false, .slice none 0 0])), .val (.is (.int .i64 30)), .put 2 13, .val (.is (.int .i64 30))] [2] [q1115] w.heap.size (by kernel_rfl) (by kernel_rfl) ⟨p1116, b1139.lt, (by simp), trivial⟩ HB ?_ ?_
  · exact ⟨fun s v h => does_val rfl rfl x_build0 rfl,
      fun s v h => does_val rfl rfl (x_move) ((h.same 4 rfl).trans e1133),
      fun s v h => does_put_z rfl rfl ((h.same 2 rfl).trans p1116) ⟨_, _, _, _, (h.dep 0 rfl)⟩ (h.mono.ok _ _ b1139.ok2) h1121,
      fun s v h => does_val rfl rfl (x_assign) (h.dep 1 rfl), trivial⟩
  intro g1144 ts v1144 hts E1144
  simp only [fillL, Nat.reduceAdd, List.setIfInBounds_toArray, List.set_cons_zero, List.set_cons_succ] at hts
  subst hts
  have T1145 : Below w.heap.size w v1144 := T1135.trans E1144.below
  have l1146 : q1109 < v1134.heap.size := b1138.lt
  have l1147 : q1115 < v1134.heap.size := b1139.lt
  have e1151 : g1144 0 = (.agg #[.bool false, .slice none 0 0]) := E1144.facts 0 (by decide)
  have e1153 : g1144 3 = (.int .i64 30) := E1144.facts 3 (by decide)
  obtain ⟨t1154, b1155⟩ := put_lit (E1144.facts 2 (by decide)) p1116 e1151
  have f1156 : Cz v1144 (.agg #[.bool false, .slice none 0 0]) 0 := cz_zero _
  refine then_normal ?_
  refine wp_ret ?_
  exact bodyPost_ret (ret_ct rfl p1116 b1155) rfl ⟨_, rfl, ⟨_, _, rfl, f1156, e1153⟩, T1145⟩

set_option maxHeartbeats 4000000 in
set_option maxRecDepth 8000 in
theorem qnear_k {w : World} {x : Value} {p q : Int} {N0 : Nat} (h0 : Rz N0 w x p q) (hN0 : N0 ≤ 100000000) (hq : q ≠ 0) (dv : (decide (q.sign ≤ 0)) = false)  : Calls Try.prog 32 #[x] w (Ret (.tup2 (.cz (fl (p + p + q) (q + q))) (.is (.int .i64 0))) w) := by
  obtain ⟨na0, A0, n0, c0, nb0, B0, m0, d0, e0r, hx0, hy0⟩ := Rz.parts h0
  subst e0r
  have la0 := hx0.len
  have lb0 := hy0.len
  have T0 : Below w.heap.size w w := Below.refl _ _
  go_enter Try.func32, Try.ntmps32
  refine wp_seq ?_
  have HB : w.heap.size ≤ w.heap.size := T0.size
  refine wp_plan_seq [.new 4 (some (29, #[.bool na0, .slice A0 n0 c0, .bool nb0, .slice B0 m0 d0])), .new 2 (some (24, #[.bool false, .slice none 0 0])), .val (.is (.int .i64 0))] [] [] w.heap.size (by kernel_rfl) (by kernel_rfl) trivial HB ?_ ?_
  · exact ⟨fun s v h => does_new rfl rfl (x_box_r (h.same 0 rfl)) (okr _ _ _ _ _ _ _ _) rfl (.inr rfl),
      fun s v h => does_new rfl rfl x_alloc_z (okz _ _ _ _) rfl (.inr rfl),
      fun s v h => does_val rfl rfl (x_assign) rfl, trivial⟩
  intro g1157 ts v1157 hts E1157
  simp only [fillL, Nat.reduceAdd, List.setIfInBounds_toArray, List.set_cons_zero, List.set_cons_succ] at hts
  subst hts
  have T1158 : Below w.heap.size w v1157 := T0.trans E1157.below
  have f1159 := (pair_mono h0 E1157.mono)
  obtain ⟨q1161, p1162, l1163, o1164, b1165⟩ : ∃ q, g1157 0 = .pointer (some ⟨q, 0, none⟩) ∧ w.heap.size ≤ q ∧ OkB v1157 q 4 ∧ Bx v1157 q 29 #[.bool na0, .slice A0 n0 c0, .bool nb0, .slice B0 m0 d0] := E1157.facts 0 (by decide)
  have h1166 : w.heap.size ≤ q1161 := Nat.le_trans HB l1163
  obtain ⟨q1167, p1168, l1169, o1170, b1171⟩ : ∃ q, g1157 1 = .pointer (some ⟨q, 0, none⟩) ∧ w.heap.size ≤ q ∧ OkB v1157 q 2 ∧ Bx v1157 q 24 #[.bool false, .slice none 0 0] := E1157.facts 1 (by decide)
  have h1173 : w.heap.size ≤ q1167 := Nat.le_trans HB l1169
  refine then_normal ?_
  refine wp_seq ?_
  refine wp_seq ?_
  have HB : w.heap.size ≤ v1157.heap.size := T1158.size
  refine wp_plan_seq [.val (.is (.agg #[.bool na0, .slice A0 n0 c0, .bool nb0, .slice B0 m0 d0])), .new 4 (some (29, #[.bool na0, .slice A0 n0 c0, .bool nb0, .slice B0 m0 d0])) (some 1), .val (.is (.int .i64 0)), .val (.is (.int .i64 0))] [] [] w.heap.size (by kernel_rfl) (by kernel_rfl) trivial HB ?_ ?_
  · exact ⟨fun s v h => does_val rfl rfl (x_load_r ((h.same 1 rfl).trans p1162) ((h.far q1161 b1165.lt (by simp)).trans b1165)) rfl,
      fun s v h => does_row rfl rfl (x_row1 (h.dep 0 rfl)) (okr _ _ _ _ _ _ _ _) rfl,
      fun s v h => does_call rfl rfl (x_call1 Try.call41) (valid1_k (h.dep 1 rfl) (pair_mono f1159 h.mono) dv),
      fun s v h => does_val rfl rfl (x_assign) (h.dep 2 rfl), trivial⟩
  intro g1175 ts v1175 hts E1175
  simp only [fillL, Nat.reduceAdd, List.setIfInBounds_toArray, List.set_cons_zero, List.set_cons_succ] at hts
  subst hts
  have T1176 : Below w.heap.size w v1175 := T1158.trans E1175.below
  have l1177 : q1161 < v1157.heap.size := b1165.lt
  have l1178 : q1167 < v1157.heap.size := b1171.lt
  have b1179 : Bx v1175 q1161 29 #[.bool na0, .slice A0 n0 c0, .bool nb0, .slice B0 m0 d0] := (E1175.far q1161 b1165.lt (by simp)).trans b1165
  have b1180 : Bx v1175 q1167 24 #[.bool false, .slice none 0 0] := (E1175.far q1167 b1171.lt (by simp)).trans b1171
  have f1181 := (pair_mono f1159 E1175.mono)
  have e1185 : g1175 3 = (.int .i64 0) := E1175.facts 3 (by decide)
  refine then_normal ?_
  refine wp_seq ?_
  have HB : w.heap.size ≤ v1175.heap.size := T1176.size
  refine wp_plan_seq [.val (.is (.int .i64 0)), .val (.is (.bool false))] [] [] w.heap.size (by kernel_rfl) (by kernel_rfl) trivial HB ?_ ?_
  · exact ⟨fun s v h => does_val rfl rfl (x_move) ((h.same 4 rfl).trans e1185),
      fun s v h => does_val rfl rfl (x_neq_err (h.dep 0 rfl) rfl) rfl, trivial⟩
  intro g1186 ts v1186 hts E1186
  simp only [fillL, Nat.reduceAdd, List.setIfInBounds_toArray, List.set_cons_zero, List.set_cons_succ] at hts
  subst hts
  have T1187 : Below w.heap.size w v1186 := T1176.trans E1186.below
  have l1188 : q1161 < v1175.heap.size := b1179.lt
  have l1189 : q1167 < v1175.heap.size := b1180.lt
  have b1190 : Bx v1186 q1161 29 #[.bool na0, .slice A0 n0 c0, .bool nb0, .slice B0 m0 d0] := (E1186.far q1161 b1179.lt (by simp)).trans b1179
  have b1191 : Bx v1186 q1167 24 #[.bool false, .slice none 0 0] := (E1186.far q1167 b1180.lt (by simp)).trans b1180
  have f1192 := (pair_mono f1181 E1186.mono)
  have e1195 : g1186 1 = (.bool false) := E1186.facts 1 (by decide)
  refine then_normal ?_
  refine wp_cond_false e1195 ?_
  refine wp_skip ?_
  refine then_normal ?_
  refine wp_seq ?_
  have HB : w.heap.size ≤ v1186.heap.size := T1187.size
  refine wp_plan_seq [.val (.is (.pointer (some ⟨q1161, 0, none⟩))), .val (.az N0 p), .val (.is (.pointer (some ⟨q1161, 2, none⟩))), .val (.az N0 q), .val (.tup2 (.cz (fl (p + p + q) (q + q))) (.is (.int .i64 0))), .val (.tup2 (.cz (fl (p + p + q) (q + q))) (.is (.int .i64 0))), .val (.cz (fl (p + p + q) (q + q))), .val (.is (.int .i64 0)), .new 2 none, .put 5 20, .val (.is (.int .i64 0))] [] [] w.heap.size (by kernel_rfl) (by kernel_rfl) trivial HB ?_ ?_
  · exact ⟨fun s v h => does_val rfl rfl (x_fld_r0 ((h.same 1 rfl).trans p1162)) rfl,
      fun s v h => does_val rfl rfl (x_load_r0 (h.dep 0 rfl) ((h.far q1161 b1190.lt (by simp)).trans b1190)) (pair_fst (pair_mono f1192 h.mono)),
      fun s v h => does_val rfl rfl (x_fld_r1 ((h.same 1 rfl).trans p1162)) rfl,
      fun s v h => does_val rfl rfl (x_load_r1 (h.dep 2 rfl) ((h.far q1161 b1190.lt (by simp)).trans b1190)) (pair_snd (pair_mono f1192 h.mono)),
      fun s v h => does_call rfl rfl (x_call2 Try.call66) (znear_k (h.dep 1 rfl) (h.dep 3 rfl) (by omega) (by omega) (by omega)),
      fun s v h => does_val rfl rfl (x_move) (h.dep 4 rfl),
      fun s v h => by obtain ⟨r0, r1, e, f0, f1⟩ := tup2_at (h.dep 5 rfl); exact does_val rfl rfl (x_ext e rfl) f0,
      fun s v h => by obtain ⟨r0, r1, e, f0, f1⟩ := tup2_at (h.dep 5 rfl); exact does_val rfl rfl (x_ext e rfl) f1,
      fun s v h => does_new rfl rfl x_alloc_z (okz _ _ _ _) rfl (.inl rfl),
      fun s v h => by obtain ⟨q, e1, e2, e3⟩ := new_at (h.dep 8 rfl); exact does_put_z rfl rfl e1 (h.dep 6 rfl).shape e3 (Nat.le_trans HB e2),
      fun s v h => does_val rfl rfl (x_assign) (h.dep 7 rfl), trivial⟩
  intro g1196 ts v1196 hts E1196
  simp only [fillL, Nat.reduceAdd, List.setIfInBounds_toArray, List.set_cons_zero, List.set_cons_succ] at hts
  subst hts
  have T1197 : Below w.heap.size w v1196 := T1187.trans E1196.below
  have l1198 : q1161 < v1186.heap.size := b1190.lt
  have l1199 : q1167 < v1186.heap.size := b1191.lt
  have b1200 : Bx v1196 q1161 29 #[.bool na0, .slice A0 n0 c0, .bool nb0, .slice B0 m0 d0] := (E1196.far q1161 b1190.lt (by simp)).trans b1190
  have b1201 : Bx v1196 q1167 24 #[.bool false, .slice none 0 0] := (E1196.far q1167 b1191.lt (by simp)).trans b1191
  have f1206 : Cz v1196 (g1196 6) (fl (p + p + q) (q + q)) := E1196.facts 6 (by decide)
  obtain ⟨q1209, p1210, l1211, o1212⟩ : ∃ q, g1196 8 = .pointer (some ⟨q, 0, none⟩) ∧ v1186.heap.size ≤ q ∧ OkB v1196 q 2 := E1196.facts 8 (by decide)
  have h1213 : w.heap.size ≤ q1209 := Nat.le_trans HB l1211
  have n1215 : q1167 ≠ q1209 := by omega
  obtain ⟨t1216, x1218, A1219, m1220, c1221, e1222, b1217⟩ := put_info (E1196.facts 9 (by decide)) p1210 f1206.shape
  have f1223 : Cz v1196 (.agg #[.bool x1218, .slice A1219 m1220 c1221]) (fl (p + p + q) (q + q)) := f1206.at e1222.symm
  refine then_normal ?_
  refine wp_seq ?_
  have HB : w.heap.size ≤ v1196.heap.size := T1197.size
  refine wp_plan_seq [.val (.cz (fl (p + p + q) (q + q))), .put 2 22, .val (.is (.int .i64 0))] [2] [q1167] w.heap.size (by kernel_rfl) (by kernel_rfl) ⟨p1168, b1201.lt, (by simp), trivial⟩ HB ?_ ?_
  · exact ⟨fun s v h => does_val rfl rfl (x_load_z ((h.same 5 rfl).trans p1210) ((h.far q1209 b1217.lt (nin1 n1215.symm)).trans b1217)) (f1223.mono h.mono),
      fun s v h => does_put_z rfl rfl ((h.same 2 rfl).trans p1168) (h.dep 0 rfl).shape (h.mono.ok _ _ b1201.ok2) h1173,
      fun s v h => does_val rfl rfl (x_assign) rfl, trivial⟩
  intro g1224 ts v1224 hts E1224
  simp only [fillL, Nat.reduceAdd, List.setIfInBounds_toArray, List.set_cons_zero, List.set_cons_succ] at hts
  subst hts
  have T1225 : Below w.heap.size w v1224 := T1197.trans E1224.below
  have l1226 : q1161 < v1196.heap.size := b1200.lt
  have l1227 : q1167 < v1196.heap.size := b1201.lt
  have l1228 : q1209 < v1196.heap.size := b1217.lt
  have f1237 : Cz v1224 (g1224 0) (fl (p + p + q) (q + q)) := E1224.facts 0 (by decide)
  have e1238 : g1224 2 = (.int .i64 0) := E1224.facts 2 (by decide)
  obtain ⟨t1239, x1241, A1242, m1243, c1244, e1245, b1240⟩ := put_info (E1224.facts 1 (by decide)) p1168 f1237.shape
  have f1246 : Cz v1224 (.agg #[.bool x1241, .slice A1242 m1243 c1244]) (fl (p + p + q) (q + q)) := f1237.at e1245.symm
  refine then_normal ?_
  refine wp_ret ?_
  exact bodyPost_ret (ret_ct rfl p1168 b1240) rfl ⟨_, rfl, ⟨_, _, rfl, f1246, e1238⟩, T1225⟩

set_option maxHeartbeats 4000000 in
set_option maxRecDepth 8000 in
theorem qnear_b {w : World} {x : Value} {p q : Int} {N0 : Nat} (h0 : Rz N0 w x p q) (dv : (decide (q.sign ≤ 0)) = true)  : Calls Try.prog 32 #[x] w (Ret (.tup2 (.cz 0) (.is (.int .i64 30))) w) := by
  obtain ⟨na0, A0, n0, c0, nb0, B0, m0, d0, e0r, hx0, hy0⟩ := Rz.parts h0
  subst e0r
  have la0 := hx0.len
  have lb0 := hy0.len
  have T0 : Below w.heap.size w w := Below.refl _ _
  go_enter Try.func32, Try.ntmps32
  refine wp_seq ?_
  have HB : w.heap.size ≤ w.heap.size := T0.size
  refine wp_plan_seq [.new 4 (some (29, #[.bool na0, .slice A0 n0 c0, .bool nb0, .slice B0 m0 d0])), .new 2 (some (24, #[.bool false, .slice none 0 0])), .val (.is (.int .i64 0))] [] [] w.heap.size (by kernel_rfl) (by kernel_rfl) trivial HB ?_ ?_
  · exact ⟨fun s v h => does_new rfl rfl (x_box_r (h.same 0 rfl)) (okr _ _ _ _ _ _ _ _) rfl (.inr rfl),
      fun s v h => does_new rfl rfl x_alloc_z (okz _ _ _ _) rfl (.inr rfl),
      fun s v h => does_val rfl rfl (x_assign) rfl, trivial⟩
  intro g1247 ts v1247 hts E1247
  simp only [fillL, Nat.reduceAdd, List.setIfInBounds_toArray, List.set_cons_zero, List.set_cons_succ] at hts
  subst hts
  have T1248 : Below w.heap.size w v1247 := T0.trans E1247.below
  have f1249 := (pair_mono h0 E1247.mono)
  obtain ⟨q1251, p1252, l1253, o1254, b1255⟩ : ∃ q, g1247 0 = .pointer (some ⟨q, 0, none⟩) ∧ w.heap.size ≤ q ∧ OkB v1247 q 4 ∧ Bx v1247 q 29 #[.bool na0, .slice A0 n0 c0, .bool nb0, .slice B0 m0 d0] := E1247.facts 0 (by decide)
  have h1256 : w.heap.size ≤ q1251 := Nat.le_trans HB l1253
  obtain ⟨q1257, p1258, l1259, o1260, b1261⟩ : ∃ q, g1247 1 = .pointer (some ⟨q, 0, none⟩) ∧ w.heap.size ≤ q ∧ OkB v1247 q 2 ∧ Bx v1247 q 24 #[.bool false, .slice none 0 0] := E1247.facts 1 (by decide)
  have h1263 : w.heap.size ≤ q1257 := Nat.le_trans HB l1259
  refine then_normal ?_
  refine wp_seq ?_
  refine wp_seq ?_
  have HB : w.heap.size ≤ v1247.heap.size := T1248.size
  refine wp_plan_seq [.val (.is (.agg #[.bool na0, .slice A0 n0 c0, .bool nb0, .slice B0 m0 d0])), .new 4 (some (29, #[.bool na0, .slice A0 n0 c0, .bool nb0, .slice B0 m0 d0])) (some 1), .val (.is (.int .i64 30)), .val (.is (.int .i64 30))] [] [] w.heap.size (by kernel_rfl) (by kernel_rfl) trivial HB ?_ ?_
  · exact ⟨fun s v h => does_val rfl rfl (x_load_r ((h.same 1 rfl).trans p1252) ((h.far q1251 b1255.lt (by simp)).trans b1255)) rfl,
      fun s v h => does_row rfl rfl (x_row1 (h.dep 0 rfl)) (okr _ _ _ _ _ _ _ _) rfl,
      fun s v h => does_call rfl rfl (x_call1 Try.call41) (valid1_k (h.dep 1 rfl) (pair_mono f1249 h.mono) dv),
      fun s v h => does_val rfl rfl (x_assign) (h.dep 2 rfl), trivial⟩
  intro g1265 ts v1265 hts E1265
  simp only [fillL, Nat.reduceAdd, List.setIfInBounds_toArray, List.set_cons_zero, List.set_cons_succ] at hts
  subst hts
  have T1266 : Below w.heap.size w v1265 := T1248.trans E1265.below
  have l1267 : q1251 < v1247.heap.size := b1255.lt
  have l1268 : q1257 < v1247.heap.size := b1261.lt
  have b1269 : Bx v1265 q1251 29 #[.bool na0, .slice A0 n0 c0, .bool nb0, .slice B0 m0 d0] := (E1265.far q1251 b1255.lt (by simp)).trans b1255
  have b1270 : Bx v1265 q1257 24 #[.bool false, .slice none 0 0] := (E1265.far q1257 b1261.lt (by simp)).trans b1261
  have e1275 : g1265 3 = (.int .i64 30) := E1265.facts 3 (by decide)
  refine then_normal ?_
  refine wp_seq ?_
  have HB : w.heap.size ≤ v1265.heap.size := T1266.size
  refine wp_plan_seq [.val (.is (.int .i64 30)), .val (.is (.bool true))] [] [] w.heap.size (by kernel_rfl) (by kernel_rfl) trivial HB ?_ ?_
  · exact ⟨fun s v h => does_val rfl rfl (x_move) ((h.same 4 rfl).trans e1275),
      fun s v h => does_val rfl rfl (x_neq_err (h.dep 0 rfl) rfl) rfl, trivial⟩
  intro g1276 ts v1276 hts E1276
  simp only [fillL, Nat.reduceAdd, List.setIfInBounds_toArray, List.set_cons_zero, List.set_cons_succ] at hts
  subst hts
  have T1277 : Below w.heap.size w v1276 := T1266.trans E1276.below
  have l1278 : q1251 < v1265.heap.size := b1269.lt
  have l1279 : q1257 < v1265.heap.size := b1270.lt
  have b1280 : Bx v1276 q1251 29 #[.bool na0, .slice A0 n0 c0, .bool nb0, .slice B0 m0 d0] := (E1276.far q1251 b1269.lt (by simp)).trans b1269
  have b1281 : Bx v1276 q1257 24 #[.bool false, .slice none 0 0] := (E1276.far q1257 b1270.lt (by simp)).trans b1270
  have e1285 : g1276 1 = (.bool true) := E1276.facts 1 (by decide)
  refine then_normal ?_
  refine wp_cond_true e1285 ?_
  refine wp_seq ?_
  have HB : w.heap.size ≤ v1276.heap.size := T1277.size
  refine wp_plan_seq [.val (.is (.agg #[.bool false, .slice none 0 0])), .val (.is (.int .i64 30)), .put 2 12, .val (.is (.int .i64 30))] [2] [q1257] w.heap.size (by kernel_rfl) (by kernel_rfl) ⟨p1258, b1281.lt, (by simp), trivial⟩ HB ?_ ?_
  · exact ⟨fun s v h => does_val rfl rfl x_build0 rfl,
      fun s v h => does_val rfl rfl (x_move) ((h.same 4 rfl).trans e1275),
      fun s v h => does_put_z rfl rfl ((h.same 2 rfl).trans p1258) ⟨_, _, _, _, (h.dep 0 rfl)⟩ (h.mono.ok _ _ b1281.ok2) h1263,
      fun s v h => does_val rfl rfl (x_assign) (h.dep 1 rfl), trivial⟩
  intro g1286 ts v1286 hts E1286
  simp only [fillL, Nat.reduceAdd, List.setIfInBounds_toArray, List.set_cons_zero, List.set_cons_succ] at hts
  subst hts
  have T1287 : Below w.heap.size w v1286 := T1277.trans E1286.below
  have l1288 : q1251 < v1276.heap.size := b1280.lt
  have l1289 : q1257 < v1276.heap.size := b1281.lt
  have e1293 : g1286 0 = (.agg #[.bool false, .slice none 0 0]) := E1286.facts 0 (by decide)
  have e1295 : g1286 3 = (.int .i64 30) := E1286.facts 3 (by decide)
  obtain ⟨t1296, b1297⟩ := put_lit (E1286.facts 2 (by decide)) p1258 e1293
  have f1298 : Cz v1286 (.agg #[.bool false, .slice none 0 0]) 0 := cz_zero _
  refine then_normal ?_
  refine wp_ret ?_
  exact bodyPost_ret (ret_ct rfl p1258 b1297) rfl ⟨_, rfl, ⟨_, _, rfl, f1298, e1295⟩, T1287⟩

end Go.Proofs.Ytdmahjbjlppeaaa
