
/- rat.two and its closures, Add, Sub, Mul, Div, Cmp, Floor, Near. -/
import Derived.Test.YtdmahjbjlppeaaaQ2
namespace Go.Proofs.Ytdmahjbjlppeaaa
open Go.RowKit

set_option maxHeartbeats 4000000 in
set_option maxRecDepth 8000 in
theorem qnear_k {w : World} {x : Value} {p q : Int} {N0 : Nat} (h0 : Rz N0 w x p q) (hN0 : N0 ≤ 100000000) (hq : q ≠ 0) (dv : (decide (q.sign ≤ 0)) = false)  : Calls Try.prog 32 #[x] w (Ret (.tup2 (.cz (fl (p + p + q) (q + q))) (.is (.int .i64 0))) w) := by
  obtain ⟨na0, A0, n0, c0, nb0, B0, m0, d0, e0r, hx0, hy0⟩ := Rz.parts h0
  subst e0r
  have la0 := hx0.len
  have lb0 := hy0.len
  have T0 : Below w.heap.size w w := Below.refl _ _
  go_enter Try.func32, Try.ntmps32
  refine wp_seq ?_
  have HB : w.heap.size ≤ w.heap.size := T0.size
  refine wp_plan_seq [.new 4 (some (29, #[.bool na0, .slice A0 n0 c0, .bool nb0, .slice B0 m0 d0])), .new 2 (some (24, #[.bool false, .slice none 0 0])), .val (.is (.int .i64 0))] [] [] w.heap.size (by kernel_rfl) (by kernel_rfl) trivial HB ?_ ?_
  · exact ⟨fun s v h => does_new rfl rfl (x_box_r (h.same 0 rfl)) (okr _ _ _ _ _ _ _ _) rfl (.inr rfl),
      fun s v h => does_new rfl rfl x_alloc_z (okz _ _ _ _) rfl (.inr rfl),
      fun s v h => does_val rfl rfl (x_assign) rfl, trivial⟩
  intro g1157 ts v1157 hts E1157
  simp only [fillL, Nat.reduceAdd, List.setIfInBounds_toArray, List.set_cons_zero, List.set_cons_succ] at hts
  subst hts
  have T1158 : Below w.heap.size w v1157 := T0.trans E1157.below
  have f1159 := (pair_mono h0 E1157.mono)
  obtain ⟨q1161, p1162, l1163, o1164, b1165⟩ : ∃ q, g1157 0 = .pointer (some ⟨q, 0, none⟩) ∧ w.heap.size ≤ q ∧ OkB v1157 q 4 ∧ Bx v1157 q 29 #[.bool na0, .slice A0 n0 c0, .bool nb0, .slice B0 m0 d0] := E1157.facts 0 (by decide)
  have h1166 : w.heap.size ≤ q1161 := Nat.le_trans HB l1163
  obtain ⟨q1167, p1168, l1169, o1170, b1171⟩ : ∃ q, g1157 1 = .pointer (some ⟨q, 0, none⟩) ∧ w.heap.size ≤ q ∧ OkB v1157 q 2 ∧ Bx v1157 q 24 #[.bool false, .slice none 0 0] := E1157.facts 1 (by decide)
  have h1173 : w.heap.size ≤ q1167 := Nat.le_trans HB l1169
  refine then_normal ?_
  refine wp_seq ?_
  refine wp_seq ?_
  have HB : w.heap.size ≤ v1157.heap.size := T1158.size
  refine wp_plan_seq [.val (.is (.agg #[.bool na0, .slice A0 n0 c0, .bool nb0, .slice B0 m0 d0])), .new 4 (some (29, #[.bool na0, .slice A0 n0 c0, .bool nb0, .slice B0 m0 d0])) (some 1), .val (.is (.int .i64 0)), .val (.is (.int .i64 0))] [] [] w.heap.size (by kernel_rfl) (by kernel_rfl) trivial HB ?_ ?_
  · exact ⟨fun s v h => does_val rfl rfl (x_load_r ((h.same 1 rfl).trans p1162) ((h.far q1161 b1165.lt (by simp)).trans b1165)) rfl,
      fun s v h => does_row rfl rfl (x_row1 (h.dep 0 rfl)) (okr _ _ _ _ _ _ _ _) rfl,
      fun s v h => does_call rfl rfl (x_call1 Try.call41) (valid1_k (h.dep 1 rfl) (pair_mono f1159 h.mono) dv),
      fun s v h => does_val rfl rfl (x_assign) (h.dep 2 rfl), trivial⟩
  intro g1175 ts v1175 hts E1175
  simp only [fillL, Nat.reduceAdd, List.setIfInBounds_toArray, List.set_cons_zero, List.set_cons_succ] at hts
  subst hts
  have T1176 : Below w.heap.size w v1175 := T1158.trans E1175.below
  have l1177 : q1161 < v1157.heap.size := b1165.lt
  have l1178 : q1167 < v1157.heap.size := b1171.lt
  have b1179 : Bx v1175 q1161 29 #[.bool na0, .slice A0 n0 c0, .bool nb0, .slice B0 m0 d0] := (E1175.far q1161 b1165.lt (by simp)).trans b1165
  have b1180 : Bx v1175 q1167 24 #[.bool false, .slice none 0 0] := (E1175.far q1167 b1171.lt (by simp)).trans b1171
  have f1181 := (pair_mono f1159 E1175.mono)
  have e1185 : g1175 3 = (.int .i64 0) := E1175.facts 3 (by decide)
  refine then_normal ?_
  refine wp_seq ?_
  have HB : w.heap.size ≤ v1175.heap.size := T1176.size
  refine wp_plan_seq [.val (.is (.int .i64 0)), .val (.is (.bool false))] [] [] w.heap.size (by kernel_rfl) (by kernel_rfl) trivial HB ?_ ?_
  · exact ⟨fun s v h => does_val rfl rfl (x_move) ((h.same 4 rfl).trans e1185),
      fun s v h => does_val rfl rfl (x_neq_err (h.dep 0 rfl) rfl) rfl, trivial⟩
  intro g1186 ts v1186 hts E1186
  simp only [fillL, Nat.reduceAdd, List.setIfInBounds_toArray, List.set_cons_zero, List.set_cons_succ] at hts
  subst hts
  have T1187 : Below w.heap.size w v1186 := T1176.trans E1186.below
  have l1188 : q1161 < v1175.heap.size := b1179.lt
  have l1189 : q1167 < v1175.heap.size := b1180.lt
  have b1190 : Bx v1186 q1161 29 #[.bool na0, .slice A0 n0 c0, .bool nb0, .slice B0 m0 d0] := (E1186.far q1161 b1179.lt (by simp)).trans b1179
  have b1191 : Bx v1186 q1167 24 #[.bool false, .slice none 0 0] := (E1186.far q1167 b1180.lt (by simp)).trans b1180
  have f1192 := (pair_mono f1181 E1186.mono)
  have e1195 : g1186 1 = (.bool false) := E1186.facts 1 (by decide)
  refine then_normal ?_
  refine wp_cond_false e1195 ?_
  refine wp_skip ?_
  refine then_normal ?_
  refine wp_seq ?_
  have HB : w.heap.size ≤ v1186.heap.size := T1187.size
  refine wp_plan_seq [.val (.is (.pointer (some ⟨q1161, 0, none⟩))), .val (.az N0 p), .val (.is (.pointer (some ⟨q1161, 2, none⟩))), .val (.az N0 q), .val (.tup2 (.cz (fl (p + p + q) (q + q))) (.is (.int .i64 0))), .val (.tup2 (.cz (fl (p + p + q) (q + q))) (.is (.int .i64 0))), .val (.cz (fl (p + p + q) (q + q))), .val (.is (.int .i64 0)), .new 2 none, .put 5 20, .val (.is (.int .i64 0))] [] [] w.heap.size (by kernel_rfl) (by kernel_rfl) trivial HB ?_ ?_
  · exact ⟨fun s v h => does_val rfl rfl (x_fld_r0 ((h.same 1 rfl).trans p1162)) rfl,
      fun s v h => does_val rfl rfl (x_load_r0 (h.dep 0 rfl) ((h.far q1161 b1190.lt (by simp)).trans b1190)) (pair_fst (pair_mono f1192 h.mono)),
      fun s v h => does_val rfl rfl (x_fld_r1 ((h.same 1 rfl).trans p1162)) rfl,
      fun s v h => does_val rfl rfl (x_load_r1 (h.dep 2 rfl) ((h.far q1161 b1190.lt (by simp)).trans b1190)) (pair_snd (pair_mono f1192 h.mono)),
      fun s v h => does_call rfl rfl (x_call2 Try.call66) (znear_k (h.dep 1 rfl) (h.dep 3 rfl) (by omega) (by omega) (by omega)),
      fun s v h => does_val rfl rfl (x_move) (h.dep 4 rfl),
      fun s v h => by obtain ⟨r0, r1, e, f0, f1⟩ := tup2_at (h.dep 5 rfl); exact does_val rfl rfl (x_ext e rfl) f0,
      fun s v h => by obtain ⟨r0, r1, e, f0, f1⟩ := tup2_at (h.dep 5 rfl); exact does_val rfl rfl (x_ext e rfl) f1,
      fun s v h => does_new rfl rfl x_alloc_z (okz _ _ _ _) rfl (.inl rfl),
      fun s v h => by obtain ⟨q, e1, e2, e3⟩ := new_at (h.dep 8 rfl); exact does_put_z rfl rfl e1 (h.dep 6 rfl).shape e3 (Nat.le_trans HB e2),
      fun s v h => does_val rfl rfl (x_assign) (h.dep 7 rfl), trivial⟩
  intro g1196 ts v1196 hts E1196
  simp only [fillL, Nat.reduceAdd, List.setIfInBounds_toArray, List.set_cons_zero, List.set_cons_succ] at hts
  subst hts
  have T1197 : Below w.heap.size w v1196 := T1187.trans E1196.below
  have l1198 : q1161 < v1186.heap.size := b1190.lt
  have l1199 : q1167 < v1186.heap.size := b1191.lt
  have b1200 : Bx v1196 q1161 29 #[.bool na0, .slice A0 n0 c0, .bool nb0, .slice B0 m0 d0] := (E1196.far q1161 b1190.lt (by simp)).trans b1190
  have b1201 : Bx v1196 q1167 24 #[.bool false, .slice none 0 0] := (E1196.far q1167 b1191.lt (by simp)).trans b1191
  have f1206 : Cz v1196 (g1196 6) (fl (p + p + q) (q + q)) := E1196.facts 6 (by decide)
  obtain ⟨q1209, p1210, l1211, o1212⟩ : ∃ q, g1196 8 = .pointer (some ⟨q, 0, none⟩) ∧ v1186.heap.size ≤ q ∧ OkB v1196 q 2 := E1196.facts 8 (by decide)
  have h1213 : w.heap.size ≤ q1209 := Nat.le_trans HB l1211
  have n1215 : q1167 ≠ q1209 := by omega
  obtain ⟨t1216, x1218, A1219, m1220, c1221, e1222, b1217⟩ := put_info (E1196.facts 9 (by decide)) p1210 f1206.shape
  have f1223 : Cz v1196 (.agg #[.bool x1218, .slice A1219 m1220 c1221]) (fl (p + p + q) (q + q)) := f1206.at e1222.symm
  refine then_normal ?_
  refine wp_seq ?_
  have HB : w.heap.size ≤ v1196.heap.size := T1197.size
  refine wp_plan_seq [.val (.cz (fl (p + p + q) (q + q))), .put 2 22, .val (.is (.int .i64 0))] [2] [q1167] w.heap.size (by kernel_rfl) (by kernel_rfl) ⟨p1168, b1201.lt, (by simp), trivial⟩ HB ?_ ?_
  · exact ⟨fun s v h => does_val rfl rfl (x_load_z ((h.same 5 rfl).trans p1210) ((h.far q1209 b1217.lt (nin1 n1215.symm)).trans b1217)) (f1223.mono h.mono),
      fun s v h => does_put_z rfl rfl ((h.same 2 rfl).trans p1168) (h.dep 0 rfl).shape (h.mono.ok _ _ b1201.ok2) h1173,
      fun s v h => does_val rfl rfl (x_assign) rfl, trivial⟩
  intro g1224 ts v1224 hts E1224
  simp only [fillL, Nat.reduceAdd, List.setIfInBounds_toArray, List.set_cons_zero, List.set_cons_succ] at hts
  subst hts
  have T1225 : Below w.heap.size w v1224 := T1197.trans E1224.below
  have l1226 : q1161 < v1196.heap.size := b1200.lt
  have l1227 : q1167 < v1196.heap.size := b1201.lt
  have l1228 : q1209 < v1196.heap.size := b1217.lt
  have f1237 : Cz v1224 (g1224 0) (fl (p + p + q) (q + q)) := E1224.facts 0 (by decide)
  have e1238 : g1224 2 = (.int .i64 0) := E1224.facts 2 (by decide)
  obtain ⟨t1239, x1241, A1242, m1243, c1244, e1245, b1240⟩ := put_info (E1224.facts 1 (by decide)) p1168 f1237.shape
  have f1246 : Cz v1224 (.agg #[.bool x1241, .slice A1242 m1243 c1244]) (fl (p + p + q) (q + q)) := f1237.at e1245.symm
  refine then_normal ?_
  refine wp_ret ?_
  exact bodyPost_ret (ret_ct rfl p1168 b1240) rfl ⟨_, rfl, ⟨_, _, rfl, f1246, e1238⟩, T1225⟩

end Go.Proofs.Ytdmahjbjlppeaaa
