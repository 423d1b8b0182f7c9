
/- zint.Compare -/
import Derived.Test.YtdmahjbjlppeaaaY1
import Derived.Test.YtdmahjbjlppeaaaNumR
namespace Go.Proofs.Ytdmahjbjlppeaaa
open Go.RowKit

theorem x_mul {T' : TypeId} {x y : Operand} {m n : Int} {d : Option Tmp} {ty : TypeId} {pos : String} {after : Array Edge} {guard : Option (Nat × Bool)} {a : Act} {w : World} (hx : a.eval x = .int .i64 m) (hy : a.eval y = .int .i64 n) (h : IntKind.i64.wrap (m * n) = m * n) :
    (execOp a.eval ⟨d, .binOp .mul 3 x y T', ty, pos, after, guard⟩).run Try.prog w = .ok (.value (.int .i64 (m * n))) w := by
  simp only [execOp, hx, hy]
  go_simp

set_option maxHeartbeats 4000000 in
set_option maxRecDepth 8000 in
theorem zcmp_a {w : World} {x : Value} {z : Int} {N0 : Nat} (h0 : Az N0 w x z) {y : Value} {u : Int} {N1 : Nat} (h1 : Az N1 w y u) (d1 : decide (z.sign < u.sign) = true)  : Calls Try.prog 54 #[x, y] w (Ret (.is (.int .i64 (-1))) w) := by
  have la0 := h0.len
  obtain ⟨na0, A0, n0, c0, M0, rfl, hm0, hz0⟩ := h0.parts
  have la1 := h1.len
  obtain ⟨na1, A1, n1, c1, M1, rfl, hm1, hz1⟩ := h1.parts
  have T0 : Below w.heap.size w w := Below.refl _ _
  go_enter Try.func54, Try.ntmps54
  refine wp_seq ?_
  have HB : w.heap.size ≤ w.heap.size := T0.size
  refine wp_plan_seq [.new 2 (some (24, #[.bool na0, .slice A0 n0 c0])), .new 2 (some (24, #[.bool na1, .slice A1 n1 c1])), .val (.is (.int .i64 0))] [] [] w.heap.size (by kernel_rfl) (by kernel_rfl) trivial HB ?_ ?_
  · exact ⟨fun s v h => does_new rfl rfl (x_box_z (h.same 0 rfl)) (okz _ _ _ _) rfl (.inr rfl),
      fun s v h => does_new rfl rfl (x_box_z (h.same 1 rfl)) (okz _ _ _ _) rfl (.inr rfl),
      fun s v h => does_val rfl rfl (x_assign) rfl, trivial⟩
  intro g1 ts v1 hts E1
  simp only [fillL, Nat.reduceAdd, List.setIfInBounds_toArray, List.set_cons_zero, List.set_cons_succ] at hts
  subst hts
  have T2 : Below w.heap.size w v1 := T0.trans E1.below
  have f3 := h0.mono E1.mono
  have f5 := h1.mono E1.mono
  obtain ⟨q8, p9, l10, o11, b12⟩ : ∃ q, g1 0 = .pointer (some ⟨q, 0, none⟩) ∧ w.heap.size ≤ q ∧ OkB v1 q 2 ∧ Bx v1 q 24 #[.bool na0, .slice A0 n0 c0] := E1.facts 0 (by decide)
  have h13 : w.heap.size ≤ q8 := Nat.le_trans HB l10
  obtain ⟨q14, p15, l16, o17, b18⟩ : ∃ q, g1 1 = .pointer (some ⟨q, 0, none⟩) ∧ w.heap.size ≤ q ∧ OkB v1 q 2 ∧ Bx v1 q 24 #[.bool na1, .slice A1 n1 c1] := E1.facts 1 (by decide)
  have h19 : w.heap.size ≤ q14 := Nat.le_trans HB l16
  refine then_normal ?_
  refine wp_seq ?_
  have HB : w.heap.size ≤ v1.heap.size := T2.size
  refine wp_plan_any [.val (.az N0 z), .val (.is (.int .i64 z.sign)), .val (.az N1 u), .val (.is (.int .i64 u.sign)), .val (.is (.int .i64 z.sign)), .val (.is (.int .i64 u.sign))] [] [] w.heap.size (by kernel_rfl) (by kernel_rfl) (by kernel_rfl) trivial HB ?_ ?_
  · exact ⟨fun s v h => does_val rfl rfl (x_load_z ((h.same 2 rfl).trans p9) ((h.far q8 b12.lt (by simp)).trans b12)) (f3.mono ((Mono.drew _).trans h.mono)),
      fun s v h => does_call rfl rfl (x_call1 Try.call43) (sign_k (h.dep 0 rfl)),
      fun s v h => does_val rfl rfl (x_load_z ((h.same 3 rfl).trans p15) ((h.far q14 b18.lt (by simp)).trans b18)) (f5.mono ((Mono.drew _).trans h.mono)),
      fun s v h => does_call rfl rfl (x_call1 Try.call43) (sign_k (h.dep 2 rfl)),
      fun s v h => does_val rfl rfl (x_assign) (h.dep 1 rfl),
      fun s v h => does_val rfl rfl (x_assign) (h.dep 3 rfl), trivial⟩
  intro g21 ts v21 hts E21
  simp only [fillL, Nat.reduceAdd, List.setIfInBounds_toArray, List.set_cons_zero, List.set_cons_succ] at hts
  subst hts
  have T22 : Below w.heap.size w v21 := (below_toDrew T2).trans E21.below
  have l23 : q8 < v1.heap.size := b12.lt
  have l24 : q14 < v1.heap.size := b18.lt
  have b25 : Bx v21 q8 24 #[.bool na0, .slice A0 n0 c0] := (E21.far q8 b12.lt (by simp)).trans b12
  have b26 : Bx v21 q14 24 #[.bool na1, .slice A1 n1 c1] := (E21.far q14 b18.lt (by simp)).trans b18
  have e35 : g21 4 = (.int .i64 z.sign) := E21.facts 4 (by decide)
  have e36 : g21 5 = (.int .i64 u.sign) := E21.facts 5 (by decide)
  refine then_normal ?_
  refine wp_seq ?_
  refine wp_block ?_
  refine wp_seq ?_
  have HB : w.heap.size ≤ v21.heap.size := T22.size
  refine wp_plan_seq [.val (.is (.int .i64 z.sign)), .val (.is (.int .i64 u.sign)), .val (.is (.bool true)), .val (.is (.bool true))] [] [] w.heap.size (by kernel_rfl) (by kernel_rfl) trivial HB ?_ ?_
  · exact ⟨fun s v h => does_val rfl rfl (x_move) ((h.same 5 rfl).trans e35),
      fun s v h => does_val rfl rfl (x_move) ((h.same 6 rfl).trans e36),
      fun s v h => does_val rfl rfl (x_lss (h.dep 0 rfl) (h.dep 1 rfl)) (congrArg Value.bool d1),
      fun s v h => does_val rfl rfl (x_assign) (h.dep 2 rfl), trivial⟩
  intro g37 ts v37 hts E37
  simp only [fillL, Nat.reduceAdd, List.setIfInBounds_toArray, List.set_cons_zero, List.set_cons_succ] at hts
  subst hts
  have T38 : Below w.heap.size w v37 := T22.trans E37.below
  have l39 : q8 < v21.heap.size := b25.lt
  have l40 : q14 < v21.heap.size := b26.lt
  have b41 : Bx v37 q8 24 #[.bool na0, .slice A0 n0 c0] := (E37.far q8 b25.lt (by simp)).trans b25
  have b42 : Bx v37 q14 24 #[.bool na1, .slice A1 n1 c1] := (E37.far q14 b26.lt (by simp)).trans b26
  have e52 : g37 3 = (.bool true) := E37.facts 3 (by decide)
  refine then_normal ?_
  refine wp_cond_true e52 ?_
  refine wp_seq ?_
  have HB : w.heap.size ≤ v37.heap.size := T38.size
  refine wp_plan_seq [.val (.is (.int .i64 (-1)))] [] [] w.heap.size (by kernel_rfl) (by kernel_rfl) trivial HB ?_ ?_
  · exact ⟨fun s v h => does_val rfl rfl (x_assign) rfl, trivial⟩
  intro g53 ts v53 hts E53
  simp only [fillL, List.setIfInBounds_toArray, List.set_cons_zero, List.set_cons_succ] at hts
  subst hts
  have T54 : Below w.heap.size w v53 := T38.trans E53.below
  have l55 : q8 < v37.heap.size := b41.lt
  have l56 : q14 < v37.heap.size := b42.lt
  have e65 : g53 0 = (.int .i64 (-1)) := E53.facts 0 (by decide)
  refine then_normal ?_
  refine wp_ret ?_
  exact bodyPost_ret (results_tmp (t := 4) rfl _ _ _) rfl ⟨_, rfl, e65, T54⟩

set_option maxHeartbeats 4000000 in
set_option maxRecDepth 8000 in
theorem zcmp_b {w : World} {x : Value} {z : Int} {N0 : Nat} (h0 : Az N0 w x z) {y : Value} {u : Int} {N1 : Nat} (h1 : Az N1 w y u) (d1 : decide (z.sign < u.sign) = false) (d2 : decide (u.sign < z.sign) = true)  : Calls Try.prog 54 #[x, y] w (Ret (.is (.int .i64 1)) w) := by
  have la0 := h0.len
  obtain ⟨na0, A0, n0, c0, M0, rfl, hm0, hz0⟩ := h0.parts
  have la1 := h1.len
  obtain ⟨na1, A1, n1, c1, M1, rfl, hm1, hz1⟩ := h1.parts
  have T0 : Below w.heap.size w w := Below.refl _ _
  go_enter Try.func54, Try.ntmps54
  refine wp_seq ?_
  have HB : w.heap.size ≤ w.heap.size := T0.size
  refine wp_plan_seq [.new 2 (some (24, #[.bool na0, .slice A0 n0 c0])), .new 2 (some (24, #[.bool na1, .slice A1 n1 c1])), .val (.is (.int .i64 0))] [] [] w.heap.size (by kernel_rfl) (by kernel_rfl) trivial HB ?_ ?_
  · exact ⟨fun s v h => does_new rfl rfl (x_box_z (h.same 0 rfl)) (okz _ _ _ _) rfl (.inr rfl),
      fun s v h => does_new rfl rfl (x_box_z (h.same 1 rfl)) (okz _ _ _ _) rfl (.inr rfl),
      fun s v h => does_val rfl rfl (x_assign) rfl, trivial⟩
  intro g66 ts v66 hts E66
  simp only [fillL, Nat.reduceAdd, List.setIfInBounds_toArray, List.set_cons_zero, List.set_cons_succ] at hts
  subst hts
  have T67 : Below w.heap.size w v66 := T0.trans E66.below
  have f68 := h0.mono E66.mono
  have f70 := h1.mono E66.mono
  obtain ⟨q73, p74, l75, o76, b77⟩ : ∃ q, g66 0 = .pointer (some ⟨q, 0, none⟩) ∧ w.heap.size ≤ q ∧ OkB v66 q 2 ∧ Bx v66 q 24 #[.bool na0, .slice A0 n0 c0] := E66.facts 0 (by decide)
  have h78 : w.heap.size ≤ q73 := Nat.le_trans HB l75
  obtain ⟨q79, p80, l81, o82, b83⟩ : ∃ q, g66 1 = .pointer (some ⟨q, 0, none⟩) ∧ w.heap.size ≤ q ∧ OkB v66 q 2 ∧ Bx v66 q 24 #[.bool na1, .slice A1 n1 c1] := E66.facts 1 (by decide)
  have h84 : w.heap.size ≤ q79 := Nat.le_trans HB l81
  refine then_normal ?_
  refine wp_seq ?_
  have HB : w.heap.size ≤ v66.heap.size := T67.size
  refine wp_plan_any [.val (.az N0 z), .val (.is (.int .i64 z.sign)), .val (.az N1 u), .val (.is (.int .i64 u.sign)), .val (.is (.int .i64 z.sign)), .val (.is (.int .i64 u.sign))] [] [] w.heap.size (by kernel_rfl) (by kernel_rfl) (by kernel_rfl) trivial HB ?_ ?_
  · exact ⟨fun s v h => does_val rfl rfl (x_load_z ((h.same 2 rfl).trans p74) ((h.far q73 b77.lt (by simp)).trans b77)) (f68.mono ((Mono.drew _).trans h.mono)),
      fun s v h => does_call rfl rfl (x_call1 Try.call43) (sign_k (h.dep 0 rfl)),
      fun s v h => does_val rfl rfl (x_load_z ((h.same 3 rfl).trans p80) ((h.far q79 b83.lt (by simp)).trans b83)) (f70.mono ((Mono.drew _).trans h.mono)),
      fun s v h => does_call rfl rfl (x_call1 Try.call43) (sign_k (h.dep 2 rfl)),
      fun s v h => does_val rfl rfl (x_assign) (h.dep 1 rfl),
      fun s v h => does_val rfl rfl (x_assign) (h.dep 3 rfl), trivial⟩
  intro g86 ts v86 hts E86
  simp only [fillL, Nat.reduceAdd, List.setIfInBounds_toArray, List.set_cons_zero, List.set_cons_succ] at hts
  subst hts
  have T87 : Below w.heap.size w v86 := (below_toDrew T67).trans E86.below
  have l88 : q73 < v66.heap.size := b77.lt
  have l89 : q79 < v66.heap.size := b83.lt
  have b90 : Bx v86 q73 24 #[.bool na0, .slice A0 n0 c0] := (E86.far q73 b77.lt (by simp)).trans b77
  have b91 : Bx v86 q79 24 #[.bool na1, .slice A1 n1 c1] := (E86.far q79 b83.lt (by simp)).trans b83
  have e100 : g86 4 = (.int .i64 z.sign) := E86.facts 4 (by decide)
  have e101 : g86 5 = (.int .i64 u.sign) := E86.facts 5 (by decide)
  refine then_normal ?_
  refine wp_seq ?_
  refine wp_block ?_
  refine wp_seq ?_
  have HB : w.heap.size ≤ v86.heap.size := T87.size
  refine wp_plan_seq [.val (.is (.int .i64 z.sign)), .val (.is (.int .i64 u.sign)), .val (.is (.bool false)), .val (.is (.bool false))] [] [] w.heap.size (by kernel_rfl) (by kernel_rfl) trivial HB ?_ ?_
  · exact ⟨fun s v h => does_val rfl rfl (x_move) ((h.same 5 rfl).trans e100),
      fun s v h => does_val rfl rfl (x_move) ((h.same 6 rfl).trans e101),
      fun s v h => does_val rfl rfl (x_lss (h.dep 0 rfl) (h.dep 1 rfl)) (congrArg Value.bool d1),
      fun s v h => does_val rfl rfl (x_assign) (h.dep 2 rfl), trivial⟩
  intro g102 ts v102 hts E102
  simp only [fillL, Nat.reduceAdd, List.setIfInBounds_toArray, List.set_cons_zero, List.set_cons_succ] at hts
  subst hts
  have T103 : Below w.heap.size w v102 := T87.trans E102.below
  have l104 : q73 < v86.heap.size := b90.lt
  have l105 : q79 < v86.heap.size := b91.lt
  have b106 : Bx v102 q73 24 #[.bool na0, .slice A0 n0 c0] := (E102.far q73 b90.lt (by simp)).trans b90
  have b107 : Bx v102 q79 24 #[.bool na1, .slice A1 n1 c1] := (E102.far q79 b91.lt (by simp)).trans b91
  have e117 : g102 3 = (.bool false) := E102.facts 3 (by decide)
  refine then_normal ?_
  refine wp_cond_false e117 ?_
  refine wp_seq ?_
  have HB : w.heap.size ≤ v102.heap.size := T103.size
  refine wp_plan_seq [.val (.is (.int .i64 z.sign)), .val (.is (.int .i64 u.sign)), .val (.is (.bool true)), .val (.is (.bool true))] [] [] w.heap.size (by kernel_rfl) (by kernel_rfl) trivial HB ?_ ?_
  · exact ⟨fun s v h => does_val rfl rfl (x_move) ((h.same 5 rfl).trans e100),
      fun s v h => does_val rfl rfl (x_move) ((h.same 6 rfl).trans e101),
      fun s v h => does_val rfl rfl (x_gtr (h.dep 0 rfl) (h.dep 1 rfl)) (congrArg Value.bool d2),
      fun s v h => does_val rfl rfl (x_assign) (h.dep 2 rfl), trivial⟩
  intro g118 ts v118 hts E118
  simp only [fillL, Nat.reduceAdd, List.setIfInBounds_toArray, List.set_cons_zero, List.set_cons_succ] at hts
  subst hts
  have T119 : Below w.heap.size w v118 := T103.trans E118.below
  have l120 : q73 < v102.heap.size := b106.lt
  have l121 : q79 < v102.heap.size := b107.lt
  have b122 : Bx v118 q73 24 #[.bool na0, .slice A0 n0 c0] := (E118.far q73 b106.lt (by simp)).trans b106
  have b123 : Bx v118 q79 24 #[.bool na1, .slice A1 n1 c1] := (E118.far q79 b107.lt (by simp)).trans b107
  have e133 : g118 3 = (.bool true) := E118.facts 3 (by decide)
  refine then_normal ?_
  refine wp_cond_true e133 ?_
  refine wp_seq ?_
  have HB : w.heap.size ≤ v118.heap.size := T119.size
  refine wp_plan_seq [.val (.is (.int .i64 1))] [] [] w.heap.size (by kernel_rfl) (by kernel_rfl) trivial HB ?_ ?_
  · exact ⟨fun s v h => does_val rfl rfl (x_assign) rfl, trivial⟩
  intro g134 ts v134 hts E134
  simp only [fillL, List.setIfInBounds_toArray, List.set_cons_zero, List.set_cons_succ] at hts
  subst hts
  have T135 : Below w.heap.size w v134 := T119.trans E134.below
  have l136 : q73 < v118.heap.size := b122.lt
  have l137 : q79 < v118.heap.size := b123.lt
  have e146 : g134 0 = (.int .i64 1) := E134.facts 0 (by decide)
  refine then_normal ?_
  refine wp_ret ?_
  exact bodyPost_ret (results_tmp (t := 4) rfl _ _ _) rfl ⟨_, rfl, e146, T135⟩

set_option maxHeartbeats 4000000 in
set_option maxRecDepth 8000 in
theorem zcmp_c {w : World} {x : Value} {z : Int} {N0 : Nat} (h0 : Az N0 w x z) {y : Value} {u : Int} {N1 : Nat} (h1 : Az N1 w y u) (d1 : decide (z.sign < u.sign) = false) (d2 : decide (u.sign < z.sign) = false) (hw : IntKind.i64.wrap (z.sign * cmpN z.natAbs u.natAbs) = z.sign * cmpN z.natAbs u.natAbs)  : Calls Try.prog 54 #[x, y] w (Ret (.is (.int .i64 (z.sign * cmpN z.natAbs u.natAbs))) w) := by
  have la0 := h0.len
  obtain ⟨na0, A0, n0, c0, M0, rfl, hm0, hz0⟩ := h0.parts
  have la1 := h1.len
  obtain ⟨na1, A1, n1, c1, M1, rfl, hm1, hz1⟩ := h1.parts
  have hM0 : z.natAbs = M0 := by rw [← hz0, zof_abs]
  have hM1 : u.natAbs = M1 := by rw [← hz1, zof_abs]
  rw [hM0, hM1] at hw ⊢
  have T0 : Below w.heap.size w w := Below.refl _ _
  go_enter Try.func54, Try.ntmps54
  refine wp_seq ?_
  have HB : w.heap.size ≤ w.heap.size := T0.size
  refine wp_plan_seq [.new 2 (some (24, #[.bool na0, .slice A0 n0 c0])), .new 2 (some (24, #[.bool na1, .slice A1 n1 c1])), .val (.is (.int .i64 0))] [] [] w.heap.size (by kernel_rfl) (by kernel_rfl) trivial HB ?_ ?_
  · exact ⟨fun s v h => does_new rfl rfl (x_box_z (h.same 0 rfl)) (okz _ _ _ _) rfl (.inr rfl),
      fun s v h => does_new rfl rfl (x_box_z (h.same 1 rfl)) (okz _ _ _ _) rfl (.inr rfl),
      fun s v h => does_val rfl rfl (x_assign) rfl, trivial⟩
  intro g147 ts v147 hts E147
  simp only [fillL, Nat.reduceAdd, List.setIfInBounds_toArray, List.set_cons_zero, List.set_cons_succ] at hts
  subst hts
  have T148 : Below w.heap.size w v147 := T0.trans E147.below
  have f149 := h0.mono E147.mono
  have f150 := hm0.mono E147.mono
  have f151 := h1.mono E147.mono
  have f152 := hm1.mono E147.mono
  obtain ⟨q154, p155, l156, o157, b158⟩ : ∃ q, g147 0 = .pointer (some ⟨q, 0, none⟩) ∧ w.heap.size ≤ q ∧ OkB v147 q 2 ∧ Bx v147 q 24 #[.bool na0, .slice A0 n0 c0] := E147.facts 0 (by decide)
  have h159 : w.heap.size ≤ q154 := Nat.le_trans HB l156
  obtain ⟨q160, p161, l162, o163, b164⟩ : ∃ q, g147 1 = .pointer (some ⟨q, 0, none⟩) ∧ w.heap.size ≤ q ∧ OkB v147 q 2 ∧ Bx v147 q 24 #[.bool na1, .slice A1 n1 c1] := E147.facts 1 (by decide)
  have h165 : w.heap.size ≤ q160 := Nat.le_trans HB l162
  refine then_normal ?_
  refine wp_seq ?_
  have HB : w.heap.size ≤ v147.heap.size := T148.size
  refine wp_plan_any [.val (.az N0 z), .val (.is (.int .i64 z.sign)), .val (.az N1 u), .val (.is (.int .i64 u.sign)), .val (.is (.int .i64 z.sign)), .val (.is (.int .i64 u.sign))] [] [] w.heap.size (by kernel_rfl) (by kernel_rfl) (by kernel_rfl) trivial HB ?_ ?_
  · exact ⟨fun s v h => does_val rfl rfl (x_load_z ((h.same 2 rfl).trans p155) ((h.far q154 b158.lt (by simp)).trans b158)) (f149.mono ((Mono.drew _).trans h.mono)),
      fun s v h => does_call rfl rfl (x_call1 Try.call43) (sign_k (h.dep 0 rfl)),
      fun s v h => does_val rfl rfl (x_load_z ((h.same 3 rfl).trans p161) ((h.far q160 b164.lt (by simp)).trans b164)) (f151.mono ((Mono.drew _).trans h.mono)),
      fun s v h => does_call rfl rfl (x_call1 Try.call43) (sign_k (h.dep 2 rfl)),
      fun s v h => does_val rfl rfl (x_assign) (h.dep 1 rfl),
      fun s v h => does_val rfl rfl (x_assign) (h.dep 3 rfl), trivial⟩
  intro g167 ts v167 hts E167
  simp only [fillL, Nat.reduceAdd, List.setIfInBounds_toArray, List.set_cons_zero, List.set_cons_succ] at hts
  subst hts
  have T168 : Below w.heap.size w v167 := (below_toDrew T148).trans E167.below
  have l169 : q154 < v147.heap.size := b158.lt
  have l170 : q160 < v147.heap.size := b164.lt
  have b171 : Bx v167 q154 24 #[.bool na0, .slice A0 n0 c0] := (E167.far q154 b158.lt (by simp)).trans b158
  have b172 : Bx v167 q160 24 #[.bool na1, .slice A1 n1 c1] := (E167.far q160 b164.lt (by simp)).trans b164
  have f174 := f150.mono ((Mono.drew _).trans E167.mono)
  have f176 := f152.mono ((Mono.drew _).trans E167.mono)
  have e181 : g167 4 = (.int .i64 z.sign) := E167.facts 4 (by decide)
  have e182 : g167 5 = (.int .i64 u.sign) := E167.facts 5 (by decide)
  refine then_normal ?_
  refine wp_seq ?_
  refine wp_block ?_
  refine wp_seq ?_
  have HB : w.heap.size ≤ v167.heap.size := T168.size
  refine wp_plan_seq [.val (.is (.int .i64 z.sign)), .val (.is (.int .i64 u.sign)), .val (.is (.bool false)), .val (.is (.bool false))] [] [] w.heap.size (by kernel_rfl) (by kernel_rfl) trivial HB ?_ ?_
  · exact ⟨fun s v h => does_val rfl rfl (x_move) ((h.same 5 rfl).trans e181),
      fun s v h => does_val rfl rfl (x_move) ((h.same 6 rfl).trans e182),
      fun s v h => does_val rfl rfl (x_lss (h.dep 0 rfl) (h.dep 1 rfl)) (congrArg Value.bool d1),
      fun s v h => does_val rfl rfl (x_assign) (h.dep 2 rfl), trivial⟩
  intro g183 ts v183 hts E183
  simp only [fillL, Nat.reduceAdd, List.setIfInBounds_toArray, List.set_cons_zero, List.set_cons_succ] at hts
  subst hts
  have T184 : Below w.heap.size w v183 := T168.trans E183.below
  have l185 : q154 < v167.heap.size := b171.lt
  have l186 : q160 < v167.heap.size := b172.lt
  have b187 : Bx v183 q154 24 #[.bool na0, .slice A0 n0 c0] := (E183.far q154 b171.lt (by simp)).trans b171
  have b188 : Bx v183 q160 24 #[.bool na1, .slice A1 n1 c1] := (E183.far q160 b172.lt (by simp)).trans b172
  have f190 := f174.mono E183.mono
  have f192 := f176.mono E183.mono
  have e198 : g183 3 = (.bool false) := E183.facts 3 (by decide)
  refine then_normal ?_
  refine wp_cond_false e198 ?_
  refine wp_seq ?_
  have HB : w.heap.size ≤ v183.heap.size := T184.size
  refine wp_plan_seq [.val (.is (.int .i64 z.sign)), .val (.is (.int .i64 u.sign)), .val (.is (.bool false)), .val (.is (.bool false))] [] [] w.heap.size (by kernel_rfl) (by kernel_rfl) trivial HB ?_ ?_
  · exact ⟨fun s v h => does_val rfl rfl (x_move) ((h.same 5 rfl).trans e181),
      fun s v h => does_val rfl rfl (x_move) ((h.same 6 rfl).trans e182),
      fun s v h => does_val rfl rfl (x_gtr (h.dep 0 rfl) (h.dep 1 rfl)) (congrArg Value.bool d2),
      fun s v h => does_val rfl rfl (x_assign) (h.dep 2 rfl), trivial⟩
  intro g199 ts v199 hts E199
  simp only [fillL, Nat.reduceAdd, List.setIfInBounds_toArray, List.set_cons_zero, List.set_cons_succ] at hts
  subst hts
  have T200 : Below w.heap.size w v199 := T184.trans E199.below
  have l201 : q154 < v183.heap.size := b187.lt
  have l202 : q160 < v183.heap.size := b188.lt
  have b203 : Bx v199 q154 24 #[.bool na0, .slice A0 n0 c0] := (E199.far q154 b187.lt (by simp)).trans b187
  have b204 : Bx v199 q160 24 #[.bool na1, .slice A1 n1 c1] := (E199.far q160 b188.lt (by simp)).trans b188
  have f206 := f190.mono E199.mono
  have f208 := f192.mono E199.mono
  have e214 : g199 3 = (.bool false) := E199.facts 3 (by decide)
  refine then_normal ?_
  refine wp_cond_false e214 ?_
  refine wp_skip ?_
  refine block_normal ?_
  refine then_normal ?_
  refine wp_seq ?_
  have HB : w.heap.size ≤ v199.heap.size := T200.size
  refine wp_plan_seq [.val (.is (.int .i64 z.sign)), .val (.is (.pointer (some ⟨q154, 1, none⟩))), .val (.nz N0 M0), .val (.is (.pointer (some ⟨q160, 1, none⟩))), .val (.nz N1 M1), .val (.is (.int .i64 (cmpN M0 M1))), .val (.is (.int .i64 (z.sign * (cmpN M0 M1)))), .val (.is (.int .i64 (z.sign * (cmpN M0 M1))))] [] [] w.heap.size (by kernel_rfl) (by kernel_rfl) trivial HB ?_ ?_
  · exact ⟨fun s v h => does_val rfl rfl (x_move) ((h.same 5 rfl).trans e181),
      fun s v h => does_val rfl rfl (x_fld (by decide) ((h.same 2 rfl).trans p155)) rfl,
      fun s v h => does_val rfl rfl (x_load_s (h.dep 1 rfl) ((h.far q154 b203.lt (by simp)).trans b203)) (f206.mono h.mono),
      fun s v h => does_val rfl rfl (x_fld (by decide) ((h.same 3 rfl).trans p161)) rfl,
      fun s v h => does_val rfl rfl (x_load_s (h.dep 3 rfl) ((h.far q160 b204.lt (by simp)).trans b204)) (f208.mono h.mono),
      fun s v h => does_call rfl rfl (x_call2 Try.call90) (ncmp_k (h.dep 2 rfl) (h.dep 4 rfl)),
      fun s v h => does_val rfl rfl (x_mul (h.dep 0 rfl) (h.dep 5 rfl) (hw)) rfl,
      fun s v h => does_val rfl rfl (x_assign) (h.dep 6 rfl), trivial⟩
  intro g215 ts v215 hts E215
  simp only [fillL, Nat.reduceAdd, List.setIfInBounds_toArray, List.set_cons_zero, List.set_cons_succ] at hts
  subst hts
  have T216 : Below w.heap.size w v215 := T200.trans E215.below
  have l217 : q154 < v199.heap.size := b203.lt
  have l218 : q160 < v199.heap.size := b204.lt
  have e232 : g215 7 = (.int .i64 (z.sign * (cmpN M0 M1))) := E215.facts 7 (by decide)
  refine then_normal ?_
  refine wp_ret ?_
  exact bodyPost_ret (results_tmp (t := 4) rfl _ _ _) rfl ⟨_, rfl, e232, T216⟩

theorem sign_small2 (a : Int) : -1 ≤ a.sign ∧ a.sign ≤ 1 := by
  rcases Int.lt_trichotomy a 0 with h | h | h
  · rw [Int.sign_eq_neg_one_of_neg h]; omega
  · rw [h]; decide
  · rw [Int.sign_eq_one_of_pos h]; omega
theorem zcmp_k {w : World} {x y : Value} {z u : Int} {N M : Nat} (h : Az N w x z) (h' : Az M w y u) : Calls Try.prog 54 #[x, y] w (Ret (.is (.int .i64 (z - u).sign)) w) := by
  rcases cmp_ways (z := z) (u := u) with ⟨d1, e⟩ | ⟨d1, d2, e⟩ | ⟨d1, d2, e⟩
  · rw [e]
    exact zcmp_a h h' d1
  · rw [e]
    exact zcmp_b h h' d1 d2
  · rw [e]
    refine zcmp_c h h' d1 d2 ?_
    rw [← e]
    obtain ⟨s0, s1⟩ := sign_small2 (z - u)
    rw [IntKind.wrap_i64]
    omega
end Go.Proofs.Ytdmahjbjlppeaaa
