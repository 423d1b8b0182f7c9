
/- The law RatOrders. -/
import Derived.Test.YtdmahjbjlppeaaaQ5
namespace Go.Proofs.Ytdmahjbjlppeaaa
open Go.RowKit

set_option maxHeartbeats 4000000 in
set_option maxRecDepth 8000 in
theorem ro_a {w : World} {x : Value} {p q : Int} (h0 : Rz 1048576 w x p q) {y : Value} {p1 q1 : Int} (h1 : Rz 1048576 w y p1 q1) (hp : 0 < q) (hp1 : 0 < q1) (db : (decide (0 < q.sign) && decide (0 < q1.sign)) = true) (dc : (((p * q1) - (p1 * q)).sign == (rn ((p * q1) - (p1 * q)) (q * q1)).sign) = true)  : Calls Try.prog 5 #[x, y] w (Ret (.is (.bool true)) w) := by
  obtain ⟨na0, A0, n0, c0, nb0, B0, m0, d0, e0r, hx0, hy0⟩ := Rz.parts h0
  subst e0r
  have la0 := hx0.len
  have lb0 := hy0.len
  obtain ⟨na1, A1, n1, c1, nb1, B1, m1, d1, e1r, hx1, hy1⟩ := Rz.parts h1
  subst e1r
  have la1 := hx1.len
  have lb1 := hy1.len
  have hq0 : q ≠ 0 := by omega
  have hq1 : q1 ≠ 0 := by omega
  have T0 : Below w.heap.size w w := Below.refl _ _
  go_enter Try.func5, Try.ntmps5
  refine wp_seq ?_
  have HB : w.heap.size ≤ w.heap.size := T0.size
  refine wp_plan_seq [.new 4 (some (29, #[.bool na0, .slice A0 n0 c0, .bool nb0, .slice B0 m0 d0])), .new 4 (some (29, #[.bool na1, .slice A1 n1 c1, .bool nb1, .slice B1 m1 d1])), .val (.is (.bool false))] [] [] w.heap.size (by kernel_rfl) (by kernel_rfl) trivial HB ?_ ?_
  · exact ⟨fun s v h => does_new rfl rfl (x_box_r (h.same 0 rfl)) (okr _ _ _ _ _ _ _ _) rfl (.inr rfl),
      fun s v h => does_new rfl rfl (x_box_r (h.same 1 rfl)) (okr _ _ _ _ _ _ _ _) rfl (.inr rfl),
      fun s v h => does_val rfl rfl (x_assign) rfl, trivial⟩
  intro g212 ts v212 hts E212
  simp only [fillL, Nat.reduceAdd, List.setIfInBounds_toArray, List.set_cons_zero, List.set_cons_succ] at hts
  subst hts
  have T213 : Below w.heap.size w v212 := T0.trans E212.below
  have f214 := (pair_mono h0 E212.mono)
  have f215 := (pair_mono h1 E212.mono)
  obtain ⟨q217, p218, l219, o220, b221⟩ : ∃ q, g212 0 = .pointer (some ⟨q, 0, none⟩) ∧ w.heap.size ≤ q ∧ OkB v212 q 4 ∧ Bx v212 q 29 #[.bool na0, .slice A0 n0 c0, .bool nb0, .slice B0 m0 d0] := E212.facts 0 (by decide)
  have h222 : w.heap.size ≤ q217 := Nat.le_trans HB l219
  obtain ⟨q223, p224, l225, o226, b227⟩ : ∃ q, g212 1 = .pointer (some ⟨q, 0, none⟩) ∧ w.heap.size ≤ q ∧ OkB v212 q 4 ∧ Bx v212 q 29 #[.bool na1, .slice A1 n1 c1, .bool nb1, .slice B1 m1 d1] := E212.facts 1 (by decide)
  have h228 : w.heap.size ≤ q223 := Nat.le_trans HB l225
  refine then_normal ?_
  refine wp_seq ?_
  have HB : w.heap.size ≤ v212.heap.size := T213.size
  refine wp_plan_seq [.val (.pair (.az 1048576 p) (.az 1048576 q)), .val (.pair (.az 1048576 p1) (.az 1048576 q1)), .val (.tup2 (.is (.int .i64 ((p * q1) - (p1 * q)).sign)) (.is (.int .i64 0))), .val (.tup2 (.is (.int .i64 ((p * q1) - (p1 * q)).sign)) (.is (.int .i64 0))), .val (.is (.int .i64 ((p * q1) - (p1 * q)).sign)), .val (.is (.int .i64 0)), .val (.is (.int .i64 ((p * q1) - (p1 * q)).sign)), .val (.is (.int .i64 0))] [] [] w.heap.size (by kernel_rfl) (by kernel_rfl) trivial HB ?_ ?_
  · exact ⟨fun s v h => does_val rfl rfl (x_load_r ((h.same 2 rfl).trans p218) ((h.far q217 b221.lt (by simp)).trans b221)) (pair_mono f214 h.mono),
      fun s v h => does_val rfl rfl (x_load_r ((h.same 3 rfl).trans p224) ((h.far q223 b227.lt (by simp)).trans b227)) (pair_mono f215 h.mono),
      fun s v h => does_call rfl rfl (x_call2 Try.call20) (qcmp_k (h.dep 0 rfl) (h.dep 1 rfl) (by omega) (by omega) (dv_of hp hp1)),
      fun s v h => does_val rfl rfl (x_move) (h.dep 2 rfl),
      fun s v h => by obtain ⟨r0, r1, e, f0, f1⟩ := tup2_at (h.dep 3 rfl); exact does_val rfl rfl (x_ext e rfl) f0,
      fun s v h => by obtain ⟨r0, r1, e, f0, f1⟩ := tup2_at (h.dep 3 rfl); exact does_val rfl rfl (x_ext e rfl) f1,
      fun s v h => does_val rfl rfl (x_assign) (h.dep 4 rfl),
      fun s v h => does_val rfl rfl (x_assign) (h.dep 5 rfl), trivial⟩
  intro g230 ts v230 hts E230
  simp only [fillL, Nat.reduceAdd, List.setIfInBounds_toArray, List.set_cons_zero, List.set_cons_succ] at hts
  subst hts
  have T231 : Below w.heap.size w v230 := T213.trans E230.below
  have l232 : q217 < v212.heap.size := b221.lt
  have l233 : q223 < v212.heap.size := b227.lt
  have b234 : Bx v230 q217 29 #[.bool na0, .slice A0 n0 c0, .bool nb0, .slice B0 m0 d0] := (E230.far q217 b221.lt (by simp)).trans b221
  have b235 : Bx v230 q223 29 #[.bool na1, .slice A1 n1 c1, .bool nb1, .slice B1 m1 d1] := (E230.far q223 b227.lt (by simp)).trans b227
  have f236 := (pair_mono f214 E230.mono)
  have f237 := (pair_mono f215 E230.mono)
  have e242 : g230 6 = (.int .i64 ((p * q1) - (p1 * q)).sign) := E230.facts 6 (by decide)
  have e243 : g230 7 = (.int .i64 0) := E230.facts 7 (by decide)
  refine then_normal ?_
  refine wp_seq ?_
  refine wp_seq ?_
  have HB : w.heap.size ≤ v230.heap.size := T231.size
  refine wp_plan_seq [.val (.pair (.az 1048576 p) (.az 1048576 q)), .val (.pair (.az 1048576 p1) (.az 1048576 q1)), .val (.is (.bool true)), .val (.is (.bool false))] [] [] w.heap.size (by kernel_rfl) (by kernel_rfl) trivial HB ?_ ?_
  · exact ⟨fun s v h => does_val rfl rfl (x_load_r ((h.same 2 rfl).trans p218) ((h.far q217 b234.lt (by simp)).trans b234)) (pair_mono f236 h.mono),
      fun s v h => does_val rfl rfl (x_load_r ((h.same 3 rfl).trans p224) ((h.far q223 b235.lt (by simp)).trans b235)) (pair_mono f237 h.mono),
      fun s v h => does_call rfl rfl (x_call2 Try.call21) (ret_lit db (lboth_k (h.dep 0 rfl) (h.dep 1 rfl) (by omega) (by omega))),
      fun s v h => does_val rfl rfl (x_not (h.dep 2 rfl)) rfl, trivial⟩
  intro g244 ts v244 hts E244
  simp only [fillL, Nat.reduceAdd, List.setIfInBounds_toArray, List.set_cons_zero, List.set_cons_succ] at hts
  subst hts
  have T245 : Below w.heap.size w v244 := T231.trans E244.below
  have l246 : q217 < v230.heap.size := b234.lt
  have l247 : q223 < v230.heap.size := b235.lt
  have b248 : Bx v244 q217 29 #[.bool na0, .slice A0 n0 c0, .bool nb0, .slice B0 m0 d0] := (E244.far q217 b234.lt (by simp)).trans b234
  have b249 : Bx v244 q223 29 #[.bool na1, .slice A1 n1 c1, .bool nb1, .slice B1 m1 d1] := (E244.far q223 b235.lt (by simp)).trans b235
  have f250 := (pair_mono f236 E244.mono)
  have f251 := (pair_mono f237 E244.mono)
  have e257 : g244 3 = (.bool false) := E244.facts 3 (by decide)
  refine then_normal ?_
  refine wp_cond_false e257 ?_
  refine wp_skip ?_
  refine then_normal ?_
  refine wp_seq ?_
  have HB : w.heap.size ≤ v244.heap.size := T245.size
  refine wp_plan_seq [.val (.is (.int .i64 0)), .val (.is (.bool true)), .val (.is (.bool true)), .val (.is (.int .i64 ((p * q1) - (p1 * q)).sign)), .val (.pair (.az 1048576 p) (.az 1048576 q)), .val (.pair (.az 1048576 p1) (.az 1048576 q1)), .val (.is (.int .i64 (rn ((p * q1) - (p1 * q)) (q * q1)).sign)), .val (.is (.bool true)), .val (.is (.bool true)), .val (.is (.bool true)), .val (.is (.bool true)), .val (.is (.bool true)), .val (.is (.bool true))] [] [] w.heap.size (by kernel_rfl) (by kernel_rfl) trivial HB ?_ ?_
  · exact ⟨fun s v h => does_val rfl rfl (x_move) ((h.same 6 rfl).trans e243),
      fun s v h => does_val rfl rfl (x_eql_err (h.dep 0 rfl) rfl) rfl,
      fun s v h => does_val rfl rfl (x_move) (h.dep 1 rfl),
      fun s v h => does_val rfl (wanted_by (b := true) (want := true) rfl rfl (h.dep 2 rfl)) (x_move) ((h.same 5 rfl).trans e242),
      fun s v h => does_val rfl (wanted_by (b := true) (want := true) rfl rfl (h.dep 2 rfl)) (x_load_r ((h.same 2 rfl).trans p218) ((h.far q217 b248.lt (by simp)).trans b248)) (pair_mono f250 h.mono),
      fun s v h => does_val rfl (wanted_by (b := true) (want := true) rfl rfl (h.dep 2 rfl)) (x_load_r ((h.same 3 rfl).trans p224) ((h.far q223 b249.lt (by simp)).trans b249)) (pair_mono f251 h.mono),
      fun s v h => does_call rfl (wanted_by (b := true) (want := true) rfl rfl (h.dep 2 rfl)) (x_call2 Try.call22) (r3cmp_k (h.dep 4 rfl) (h.dep 5 rfl) (by omega) (by omega) hq0 hq1),
      fun s v h => does_val rfl (wanted_by (b := true) (want := true) rfl rfl (h.dep 2 rfl)) (x_eql_int (h.dep 3 rfl) (h.dep 6 rfl)) (congrArg Value.bool dc),
      fun s v h => does_val rfl rfl (x_pick (h.dep 2 rfl)) (h.dep 7 rfl),
      fun s v h => does_val rfl rfl (x_move) (h.dep 8 rfl),
      fun s v h => does_call rfl (wanted_by (b := true) (want := true) rfl rfl (h.dep 9 rfl)) (x_call0 Try.call16) (lawake_k),
      fun s v h => does_val rfl rfl (x_pick (h.dep 9 rfl)) (h.dep 10 rfl),
      fun s v h => does_val rfl rfl (x_assign) (h.dep 11 rfl), trivial⟩
  intro g258 ts v258 hts E258
  simp only [fillL, Nat.reduceAdd, List.setIfInBounds_toArray, List.set_cons_zero, List.set_cons_succ] at hts
  subst hts
  have T259 : Below w.heap.size w v258 := T245.trans E258.below
  have l260 : q217 < v244.heap.size := b248.lt
  have l261 : q223 < v244.heap.size := b249.lt
  have e282 : g258 12 = (.bool true) := E258.facts 12 (by decide)
  refine then_normal ?_
  refine wp_ret ?_
  exact bodyPost_ret (results_tmp (t := 4) rfl _ _ _) rfl ⟨_, rfl, e282, T259⟩

set_option maxHeartbeats 4000000 in
set_option maxRecDepth 8000 in
theorem ro_b {w : World} {x : Value} {p q : Int} (h0 : Rz 1048576 w x p q) {y : Value} {p1 q1 : Int} (h1 : Rz 1048576 w y p1 q1) (db : (decide (0 < q.sign) && decide (0 < q1.sign)) = false) (dv : (decide (q.sign ≤ 0) || decide (q1.sign ≤ 0)) = true)  : Calls Try.prog 5 #[x, y] w (Ret (.is (.bool true)) w) := by
  obtain ⟨na0, A0, n0, c0, nb0, B0, m0, d0, e0r, hx0, hy0⟩ := Rz.parts h0
  subst e0r
  have la0 := hx0.len
  have lb0 := hy0.len
  obtain ⟨na1, A1, n1, c1, nb1, B1, m1, d1, e1r, hx1, hy1⟩ := Rz.parts h1
  subst e1r
  have la1 := hx1.len
  have lb1 := hy1.len
  have T0 : Below w.heap.size w w := Below.refl _ _
  go_enter Try.func5, Try.ntmps5
  refine wp_seq ?_
  have HB : w.heap.size ≤ w.heap.size := T0.size
  refine wp_plan_seq [.new 4 (some (29, #[.bool na0, .slice A0 n0 c0, .bool nb0, .slice B0 m0 d0])), .new 4 (some (29, #[.bool na1, .slice A1 n1 c1, .bool nb1, .slice B1 m1 d1])), .val (.is (.bool false))] [] [] w.heap.size (by kernel_rfl) (by kernel_rfl) trivial HB ?_ ?_
  · exact ⟨fun s v h => does_new rfl rfl (x_box_r (h.same 0 rfl)) (okr _ _ _ _ _ _ _ _) rfl (.inr rfl),
      fun s v h => does_new rfl rfl (x_box_r (h.same 1 rfl)) (okr _ _ _ _ _ _ _ _) rfl (.inr rfl),
      fun s v h => does_val rfl rfl (x_assign) rfl, trivial⟩
  intro g283 ts v283 hts E283
  simp only [fillL, Nat.reduceAdd, List.setIfInBounds_toArray, List.set_cons_zero, List.set_cons_succ] at hts
  subst hts
  have T284 : Below w.heap.size w v283 := T0.trans E283.below
  have f285 := (pair_mono h0 E283.mono)
  have f286 := (pair_mono h1 E283.mono)
  obtain ⟨q288, p289, l290, o291, b292⟩ : ∃ q, g283 0 = .pointer (some ⟨q, 0, none⟩) ∧ w.heap.size ≤ q ∧ OkB v283 q 4 ∧ Bx v283 q 29 #[.bool na0, .slice A0 n0 c0, .bool nb0, .slice B0 m0 d0] := E283.facts 0 (by decide)
  have h293 : w.heap.size ≤ q288 := Nat.le_trans HB l290
  obtain ⟨q294, p295, l296, o297, b298⟩ : ∃ q, g283 1 = .pointer (some ⟨q, 0, none⟩) ∧ w.heap.size ≤ q ∧ OkB v283 q 4 ∧ Bx v283 q 29 #[.bool na1, .slice A1 n1 c1, .bool nb1, .slice B1 m1 d1] := E283.facts 1 (by decide)
  have h299 : w.heap.size ≤ q294 := Nat.le_trans HB l296
  refine then_normal ?_
  refine wp_seq ?_
  have HB : w.heap.size ≤ v283.heap.size := T284.size
  refine wp_plan_seq [.val (.pair (.az 1048576 p) (.az 1048576 q)), .val (.pair (.az 1048576 p1) (.az 1048576 q1)), .val (.tup2 (.is (.int .i64 0)) (.is (.int .i64 30))), .val (.tup2 (.is (.int .i64 0)) (.is (.int .i64 30))), .val (.is (.int .i64 0)), .val (.is (.int .i64 30)), .val (.is (.int .i64 0)), .val (.is (.int .i64 30))] [] [] w.heap.size (by kernel_rfl) (by kernel_rfl) trivial HB ?_ ?_
  · exact ⟨fun s v h => does_val rfl rfl (x_load_r ((h.same 2 rfl).trans p289) ((h.far q288 b292.lt (by simp)).trans b292)) (pair_mono f285 h.mono),
      fun s v h => does_val rfl rfl (x_load_r ((h.same 3 rfl).trans p295) ((h.far q294 b298.lt (by simp)).trans b298)) (pair_mono f286 h.mono),
      fun s v h => does_call rfl rfl (x_call2 Try.call20) (qcmp_b (h.dep 0 rfl) (h.dep 1 rfl) dv),
      fun s v h => does_val rfl rfl (x_move) (h.dep 2 rfl),
      fun s v h => by obtain ⟨r0, r1, e, f0, f1⟩ := tup2_at (h.dep 3 rfl); exact does_val rfl rfl (x_ext e rfl) f0,
      fun s v h => by obtain ⟨r0, r1, e, f0, f1⟩ := tup2_at (h.dep 3 rfl); exact does_val rfl rfl (x_ext e rfl) f1,
      fun s v h => does_val rfl rfl (x_assign) (h.dep 4 rfl),
      fun s v h => does_val rfl rfl (x_assign) (h.dep 5 rfl), trivial⟩
  intro g301 ts v301 hts E301
  simp only [fillL, Nat.reduceAdd, List.setIfInBounds_toArray, List.set_cons_zero, List.set_cons_succ] at hts
  subst hts
  have T302 : Below w.heap.size w v301 := T284.trans E301.below
  have l303 : q288 < v283.heap.size := b292.lt
  have l304 : q294 < v283.heap.size := b298.lt
  have b305 : Bx v301 q288 29 #[.bool na0, .slice A0 n0 c0, .bool nb0, .slice B0 m0 d0] := (E301.far q288 b292.lt (by simp)).trans b292
  have b306 : Bx v301 q294 29 #[.bool na1, .slice A1 n1 c1, .bool nb1, .slice B1 m1 d1] := (E301.far q294 b298.lt (by simp)).trans b298
  have f307 := (pair_mono f285 E301.mono)
  have f308 := (pair_mono f286 E301.mono)
  have e313 : g301 6 = (.int .i64 0) := E301.facts 6 (by decide)
  have e314 : g301 7 = (.int .i64 30) := E301.facts 7 (by decide)
  refine then_normal ?_
  refine wp_seq ?_
  refine wp_seq ?_
  have HB : w.heap.size ≤ v301.heap.size := T302.size
  refine wp_plan_seq [.val (.pair (.az 1048576 p) (.az 1048576 q)), .val (.pair (.az 1048576 p1) (.az 1048576 q1)), .val (.is (.bool false)), .val (.is (.bool true))] [] [] w.heap.size (by kernel_rfl) (by kernel_rfl) trivial HB ?_ ?_
  · exact ⟨fun s v h => does_val rfl rfl (x_load_r ((h.same 2 rfl).trans p289) ((h.far q288 b305.lt (by simp)).trans b305)) (pair_mono f307 h.mono),
      fun s v h => does_val rfl rfl (x_load_r ((h.same 3 rfl).trans p295) ((h.far q294 b306.lt (by simp)).trans b306)) (pair_mono f308 h.mono),
      fun s v h => does_call rfl rfl (x_call2 Try.call21) (ret_lit db (lboth_k (h.dep 0 rfl) (h.dep 1 rfl) (by omega) (by omega))),
      fun s v h => does_val rfl rfl (x_not (h.dep 2 rfl)) rfl, trivial⟩
  intro g315 ts v315 hts E315
  simp only [fillL, Nat.reduceAdd, List.setIfInBounds_toArray, List.set_cons_zero, List.set_cons_succ] at hts
  subst hts
  have T316 : Below w.heap.size w v315 := T302.trans E315.below
  have l317 : q288 < v301.heap.size := b305.lt
  have l318 : q294 < v301.heap.size := b306.lt
  have b319 : Bx v315 q288 29 #[.bool na0, .slice A0 n0 c0, .bool nb0, .slice B0 m0 d0] := (E315.far q288 b305.lt (by simp)).trans b305
  have b320 : Bx v315 q294 29 #[.bool na1, .slice A1 n1 c1, .bool nb1, .slice B1 m1 d1] := (E315.far q294 b306.lt (by simp)).trans b306
  have e328 : g315 3 = (.bool true) := E315.facts 3 (by decide)
  refine then_normal ?_
  refine wp_cond_true e328 ?_
  refine wp_seq ?_
  have HB : w.heap.size ≤ v315.heap.size := T316.size
  refine wp_plan_seq [.val (.is (.int .i64 30)), .val (.is (.bool true)), .val (.is (.bool true)), .val (.is (.int .i64 0)), .val (.is (.bool true)), .val (.is (.bool true)), .val (.is (.bool true)), .val (.is (.bool true)), .val (.is (.bool true)), .val (.is (.bool true))] [] [] w.heap.size (by kernel_rfl) (by kernel_rfl) trivial HB ?_ ?_
  · exact ⟨fun s v h => does_val rfl rfl (x_move) ((h.same 6 rfl).trans e314),
      fun s v h => does_val rfl rfl (x_eql_err (h.dep 0 rfl) rfl) rfl,
      fun s v h => does_val rfl rfl (x_move) (h.dep 1 rfl),
      fun s v h => does_val rfl (wanted_by (b := true) (want := true) rfl rfl (h.dep 2 rfl)) (x_move) ((h.same 5 rfl).trans e313),
      fun s v h => does_val rfl (wanted_by (b := true) (want := true) rfl rfl (h.dep 2 rfl)) (x_eql_int (h.dep 3 rfl) rfl) rfl,
      fun s v h => does_val rfl rfl (x_pick (h.dep 2 rfl)) (h.dep 4 rfl),
      fun s v h => does_val rfl rfl (x_move) (h.dep 5 rfl),
      fun s v h => does_call rfl (wanted_by (b := true) (want := true) rfl rfl (h.dep 6 rfl)) (x_call0 Try.call16) (lawake_k),
      fun s v h => does_val rfl rfl (x_pick (h.dep 6 rfl)) (h.dep 7 rfl),
      fun s v h => does_val rfl rfl (x_assign) (h.dep 8 rfl), trivial⟩
  intro g329 ts v329 hts E329
  simp only [fillL, Nat.reduceAdd, List.setIfInBounds_toArray, List.set_cons_zero, List.set_cons_succ] at hts
  subst hts
  have T330 : Below w.heap.size w v329 := T316.trans E329.below
  have l331 : q288 < v315.heap.size := b319.lt
  have l332 : q294 < v315.heap.size := b320.lt
  have e350 : g329 9 = (.bool true) := E329.facts 9 (by decide)
  refine then_normal ?_
  refine wp_ret ?_
  exact bodyPost_ret (results_tmp (t := 4) rfl _ _ _) rfl ⟨_, rfl, e350, T330⟩

theorem ratOrders_law (w : World) (v0 : Value) (x0 : Int × Int) (v1 : Value) (x1 : Int × Int) (s0 : Rz 1048576 w v0 x0.1 x0.2) (s1 : Rz 1048576 w v1 x1.1 x1.2) :
    Calls Try.prog 5 #[v0, v1] w fun e w' => e = .returned (.bool true) ∧ Below w.heap.size w w' := by
  have fin : Calls Try.prog 5 #[v0, v1] w (Ret (.is (.bool true)) w) := by
    obtain ⟨p, q⟩ := x0
    obtain ⟨p1, q1⟩ := x1
    rcases both_ways q q1 with ⟨hp, hp1, db⟩ | ⟨db, dv⟩
    · exact ro_a s0 s1 hp hp1 db (by rw [sign_ratio (Int.mul_pos hp hp1)]; simp)
    · exact ro_b s0 s1 db dv
  refine fin.mono fun e w' h => ?_
  obtain ⟨r, e, hr, hB⟩ := h
  have hr : r = .bool true := hr
  exact ⟨by rw [e, hr], hB⟩
end Go.Proofs.Ytdmahjbjlppeaaa
