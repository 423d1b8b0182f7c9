
/- The law RatRounds. -/
import Derived.Test.YtdmahjbjlppeaaaQ5
namespace Go.Proofs.Ytdmahjbjlppeaaa
open Go.RowKit

set_option maxHeartbeats 4000000 in
set_option maxRecDepth 8000 in
theorem rr_a {w : World} {x : Value} {p q : Int} (h0 : Rz 1048576 w x p q) (hp : 0 < q) (dk : decide (0 < q.sign) = true)  : Calls Try.prog 9 #[x] w (Ret (.is (.bool true)) w) := by
  obtain ⟨na0, A0, n0, c0, nb0, B0, m0, d0, e0r, hx0, hy0⟩ := Rz.parts h0
  subst e0r
  have la0 := hx0.len
  have lb0 := hy0.len
  have hq0 : q ≠ 0 := by omega
  have T0 : Below w.heap.size w w := Below.refl _ _
  go_enter Try.func9, Try.ntmps9
  refine wp_seq ?_
  have HB : w.heap.size ≤ w.heap.size := T0.size
  refine wp_plan_seq [.new 4 (some (29, #[.bool na0, .slice A0 n0 c0, .bool nb0, .slice B0 m0 d0])), .val (.is (.bool false))] [] [] w.heap.size (by kernel_rfl) (by kernel_rfl) trivial HB ?_ ?_
  · exact ⟨fun s v h => does_new rfl rfl (x_box_r (h.same 0 rfl)) (okr _ _ _ _ _ _ _ _) rfl (.inr rfl),
      fun s v h => does_val rfl rfl (x_assign) rfl, trivial⟩
  intro g1246 ts v1246 hts E1246
  simp only [fillL, Nat.reduceAdd, List.setIfInBounds_toArray, List.set_cons_zero, List.set_cons_succ] at hts
  subst hts
  have T1247 : Below w.heap.size w v1246 := T0.trans E1246.below
  have f1248 := (pair_mono h0 E1246.mono)
  obtain ⟨q1250, p1251, l1252, o1253, b1254⟩ : ∃ q, g1246 0 = .pointer (some ⟨q, 0, none⟩) ∧ w.heap.size ≤ q ∧ OkB v1246 q 4 ∧ Bx v1246 q 29 #[.bool na0, .slice A0 n0 c0, .bool nb0, .slice B0 m0 d0] := E1246.facts 0 (by decide)
  have h1255 : w.heap.size ≤ q1250 := Nat.le_trans HB l1252
  refine then_normal ?_
  refine wp_seq ?_
  have HB : w.heap.size ≤ v1246.heap.size := T1247.size
  refine wp_plan_seq [.val (.pair (.az 1048576 p) (.az 1048576 q)), .val (.tup2 (.cz (fl p q)) (.is (.int .i64 0))), .val (.tup2 (.cz (fl p q)) (.is (.int .i64 0))), .val (.cz (fl p q)), .val (.is (.int .i64 0)), .new 2 none, .put 3 12, .val (.is (.int .i64 0))] [] [] w.heap.size (by kernel_rfl) (by kernel_rfl) trivial HB ?_ ?_
  · exact ⟨fun s v h => does_val rfl rfl (x_load_r ((h.same 1 rfl).trans p1251) ((h.far q1250 b1254.lt (by simp)).trans b1254)) (pair_mono f1248 h.mono),
      fun s v h => does_call rfl rfl (x_call1 Try.call12) (qfloor_k (h.dep 0 rfl) (by omega) hq0 (dv_one hp)),
      fun s v h => does_val rfl rfl (x_move) (h.dep 1 rfl),
      fun s v h => by obtain ⟨r0, r1, e, f0, f1⟩ := tup2_at (h.dep 2 rfl); exact does_val rfl rfl (x_ext e rfl) f0,
      fun s v h => by obtain ⟨r0, r1, e, f0, f1⟩ := tup2_at (h.dep 2 rfl); exact does_val rfl rfl (x_ext e rfl) f1,
      fun s v h => does_new rfl rfl x_alloc_z (okz _ _ _ _) rfl (.inl rfl),
      fun s v h => by obtain ⟨q, e1, e2, e3⟩ := new_at (h.dep 5 rfl); exact does_put_z rfl rfl e1 (h.dep 3 rfl).shape e3 (Nat.le_trans HB e2),
      fun s v h => does_val rfl rfl (x_assign) (h.dep 4 rfl), trivial⟩
  intro g1256 ts v1256 hts E1256
  simp only [fillL, Nat.reduceAdd, List.setIfInBounds_toArray, List.set_cons_zero, List.set_cons_succ] at hts
  subst hts
  have T1257 : Below w.heap.size w v1256 := T1247.trans E1256.below
  have l1258 : q1250 < v1246.heap.size := b1254.lt
  have b1259 : Bx v1256 q1250 29 #[.bool na0, .slice A0 n0 c0, .bool nb0, .slice B0 m0 d0] := (E1256.far q1250 b1254.lt (by simp)).trans b1254
  have f1260 := (pair_mono f1248 E1256.mono)
  have f1262 : Cz v1256 (g1256 3) (fl p q) := E1256.facts 3 (by decide)
  have e1264 : g1256 7 = (.int .i64 0) := E1256.facts 7 (by decide)
  obtain ⟨q1265, p1266, l1267, o1268⟩ : ∃ q, g1256 5 = .pointer (some ⟨q, 0, none⟩) ∧ v1246.heap.size ≤ q ∧ OkB v1256 q 2 := E1256.facts 5 (by decide)
  have h1269 : w.heap.size ≤ q1265 := Nat.le_trans HB l1267
  obtain ⟨t1271, x1273, A1274, m1275, c1276, e1277, b1272⟩ := put_info (E1256.facts 6 (by decide)) p1266 f1262.shape
  have f1278 : Cz v1256 (.agg #[.bool x1273, .slice A1274 m1275 c1276]) (fl p q) := f1262.at e1277.symm
  refine then_normal ?_
  refine wp_seq ?_
  have HB : w.heap.size ≤ v1256.heap.size := T1257.size
  refine wp_plan_seq [.val (.pair (.az 1048576 p) (.az 1048576 q)), .val (.tup2 (.cz (fl (p + p + q) (q + q))) (.is (.int .i64 0))), .val (.tup2 (.cz (fl (p + p + q) (q + q))) (.is (.int .i64 0))), .val (.cz (fl (p + p + q) (q + q))), .val (.is (.int .i64 0)), .new 2 none, .put 5 17, .val (.is (.int .i64 0))] [] [] w.heap.size (by kernel_rfl) (by kernel_rfl) trivial HB ?_ ?_
  · exact ⟨fun s v h => does_val rfl rfl (x_load_r ((h.same 1 rfl).trans p1251) ((h.far q1250 b1259.lt (by simp)).trans b1259)) (pair_mono f1260 h.mono),
      fun s v h => does_call rfl rfl (x_call1 Try.call32) (qnear_k (h.dep 0 rfl) (by omega) hq0 (dv_one hp)),
      fun s v h => does_val rfl rfl (x_move) (h.dep 1 rfl),
      fun s v h => by obtain ⟨r0, r1, e, f0, f1⟩ := tup2_at (h.dep 2 rfl); exact does_val rfl rfl (x_ext e rfl) f0,
      fun s v h => by obtain ⟨r0, r1, e, f0, f1⟩ := tup2_at (h.dep 2 rfl); exact does_val rfl rfl (x_ext e rfl) f1,
      fun s v h => does_new rfl rfl x_alloc_z (okz _ _ _ _) rfl (.inl rfl),
      fun s v h => by obtain ⟨q, e1, e2, e3⟩ := new_at (h.dep 5 rfl); exact does_put_z rfl rfl e1 (h.dep 3 rfl).shape e3 (Nat.le_trans HB e2),
      fun s v h => does_val rfl rfl (x_assign) (h.dep 4 rfl), trivial⟩
  intro g1279 ts v1279 hts E1279
  simp only [fillL, Nat.reduceAdd, List.setIfInBounds_toArray, List.set_cons_zero, List.set_cons_succ] at hts
  subst hts
  have T1280 : Below w.heap.size w v1279 := T1257.trans E1279.below
  have l1281 : q1250 < v1256.heap.size := b1259.lt
  have l1282 : q1265 < v1256.heap.size := b1272.lt
  have b1283 : Bx v1279 q1250 29 #[.bool na0, .slice A0 n0 c0, .bool nb0, .slice B0 m0 d0] := (E1279.far q1250 b1259.lt (by simp)).trans b1259
  have b1284 : Bx v1279 q1265 t1271 #[.bool x1273, .slice A1274 m1275 c1276] := (E1279.far q1265 b1272.lt (by simp)).trans b1272
  have f1285 := (pair_mono f1260 E1279.mono)
  have f1288 := (f1278.mono E1279.mono)
  have f1290 : Cz v1279 (g1279 3) (fl (p + p + q) (q + q)) := E1279.facts 3 (by decide)
  have e1292 : g1279 7 = (.int .i64 0) := E1279.facts 7 (by decide)
  obtain ⟨q1293, p1294, l1295, o1296⟩ : ∃ q, g1279 5 = .pointer (some ⟨q, 0, none⟩) ∧ v1256.heap.size ≤ q ∧ OkB v1279 q 2 := E1279.facts 5 (by decide)
  have h1297 : w.heap.size ≤ q1293 := Nat.le_trans HB l1295
  obtain ⟨t1300, x1302, A1303, m1304, c1305, e1306, b1301⟩ := put_info (E1279.facts 6 (by decide)) p1294 f1290.shape
  have f1307 : Cz v1279 (.agg #[.bool x1302, .slice A1303 m1304 c1305]) (fl (p + p + q) (q + q)) := f1290.at e1306.symm
  refine then_normal ?_
  refine wp_seq ?_
  have HB : w.heap.size ≤ v1279.heap.size := T1280.size
  refine wp_plan_seq [.val (.pair (.az 1048576 p) (.az 1048576 q)), .val (.tup2 (.pair (.cz ((rn ((p * 1) - ((fl (p + p + q) (q + q)) * q)) (q * 1)).natAbs : Int)) (.cz (rd ((p * 1) - ((fl (p + p + q) (q + q)) * q)) (q * 1)))) (.is (.int .i64 0))), .val (.tup2 (.pair (.cz ((rn ((p * 1) - ((fl (p + p + q) (q + q)) * q)) (q * 1)).natAbs : Int)) (.cz (rd ((p * 1) - ((fl (p + p + q) (q + q)) * q)) (q * 1)))) (.is (.int .i64 0))), .val (.pair (.cz ((rn ((p * 1) - ((fl (p + p + q) (q + q)) * q)) (q * 1)).natAbs : Int)) (.cz (rd ((p * 1) - ((fl (p + p + q) (q + q)) * q)) (q * 1)))), .val (.is (.int .i64 0)), .new 4 none, .put 7 22, .val (.is (.int .i64 0))] [] [] w.heap.size (by kernel_rfl) (by kernel_rfl) trivial HB ?_ ?_
  · exact ⟨fun s v h => does_val rfl rfl (x_load_r ((h.same 1 rfl).trans p1251) ((h.far q1250 b1283.lt (by simp)).trans b1283)) (pair_mono f1285 h.mono),
      fun s v h => does_call rfl rfl (x_call1 Try.call34) (qdist_k (h.dep 0 rfl) (by omega) hp (dv_one hp) (dv_of hp (by decide))),
      fun s v h => does_val rfl rfl (x_move) (h.dep 1 rfl),
      fun s v h => by obtain ⟨r0, r1, e, f0, f1⟩ := tup2_at (h.dep 2 rfl); exact does_val rfl rfl (x_ext e rfl) f0,
      fun s v h => by obtain ⟨r0, r1, e, f0, f1⟩ := tup2_at (h.dep 2 rfl); exact does_val rfl rfl (x_ext e rfl) f1,
      fun s v h => does_new rfl rfl x_alloc_r (okr _ _ _ _ _ _ _ _) rfl (.inl rfl),
      fun s v h => by obtain ⟨q, e1, e2, e3⟩ := new_at (h.dep 5 rfl); exact does_put_r rfl rfl e1 (pair_shape (num_cz _) (num_cz _) (h.dep 3 rfl)) e3 (Nat.le_trans HB e2),
      fun s v h => does_val rfl rfl (x_assign) (h.dep 4 rfl), trivial⟩
  intro g1308 ts v1308 hts E1308
  simp only [fillL, Nat.reduceAdd, List.setIfInBounds_toArray, List.set_cons_zero, List.set_cons_succ] at hts
  subst hts
  have T1309 : Below w.heap.size w v1308 := T1280.trans E1308.below
  have l1310 : q1250 < v1279.heap.size := b1283.lt
  have l1311 : q1265 < v1279.heap.size := b1284.lt
  have l1312 : q1293 < v1279.heap.size := b1301.lt
  have b1313 : Bx v1308 q1250 29 #[.bool na0, .slice A0 n0 c0, .bool nb0, .slice B0 m0 d0] := (E1308.far q1250 b1283.lt (by simp)).trans b1283
  have b1314 : Bx v1308 q1265 t1271 #[.bool x1273, .slice A1274 m1275 c1276] := (E1308.far q1265 b1284.lt (by simp)).trans b1284
  have b1315 : Bx v1308 q1293 t1300 #[.bool x1302, .slice A1303 m1304 c1305] := (E1308.far q1293 b1301.lt (by simp)).trans b1301
  have f1316 := (pair_mono f1285 E1308.mono)
  have f1319 := (f1288.mono E1308.mono)
  have f1322 := (f1307.mono E1308.mono)
  have f1324 : ((.pair (.cz ((rn ((p * 1) - ((fl (p + p + q) (q + q)) * q)) (q * 1)).natAbs : Int)) (.cz (rd ((p * 1) - ((fl (p + p + q) (q + q)) * q)) (q * 1)))) : Known).p v1308 (g1308 3) := E1308.facts 3 (by decide)
  have e1326 : g1308 7 = (.int .i64 0) := E1308.facts 7 (by decide)
  obtain ⟨q1327, p1328, l1329, o1330⟩ : ∃ q, g1308 5 = .pointer (some ⟨q, 0, none⟩) ∧ v1279.heap.size ≤ q ∧ OkB v1308 q 4 := E1308.facts 5 (by decide)
  have h1331 : w.heap.size ≤ q1327 := Nat.le_trans HB l1329
  obtain ⟨t1335, x1337, A1338, m1339, c1340, x1341, A1342, m1343, c1344, e1345, b1336⟩ := put_info4 (E1308.facts 6 (by decide)) p1328 (pair_shape (num_cz _) (num_cz _) f1324)
  have f1346 : ((.pair (.cz ((rn ((p * 1) - ((fl (p + p + q) (q + q)) * q)) (q * 1)).natAbs : Int)) (.cz (rd ((p * 1) - ((fl (p + p + q) (q + q)) * q)) (q * 1)))) : Known).p v1308 (.agg #[.bool x1337, .slice A1338 m1339 c1340, .bool x1341, .slice A1342 m1343 c1344]) := pair_at f1324 e1345.symm
  refine then_normal ?_
  refine wp_seq ?_
  refine wp_seq ?_
  have HB : w.heap.size ≤ v1308.heap.size := T1309.size
  refine wp_plan_seq [.val (.pair (.az 1048576 p) (.az 1048576 q)), .val (.is (.bool true)), .val (.is (.bool false))] [] [] w.heap.size (by kernel_rfl) (by kernel_rfl) trivial HB ?_ ?_
  · exact ⟨fun s v h => does_val rfl rfl (x_load_r ((h.same 1 rfl).trans p1251) ((h.far q1250 b1313.lt (by simp)).trans b1313)) (pair_mono f1316 h.mono),
      fun s v h => does_call rfl rfl (x_call1 Try.call31) (ret_lit dk (lok_k (h.dep 0 rfl) (by omega))),
      fun s v h => does_val rfl rfl (x_not (h.dep 1 rfl)) rfl, trivial⟩
  intro g1347 ts v1347 hts E1347
  simp only [fillL, Nat.reduceAdd, List.setIfInBounds_toArray, List.set_cons_zero, List.set_cons_succ] at hts
  subst hts
  have T1348 : Below w.heap.size w v1347 := T1309.trans E1347.below
  have l1349 : q1250 < v1308.heap.size := b1313.lt
  have l1350 : q1265 < v1308.heap.size := b1314.lt
  have l1351 : q1293 < v1308.heap.size := b1315.lt
  have l1352 : q1327 < v1308.heap.size := b1336.lt
  have b1353 : Bx v1347 q1250 29 #[.bool na0, .slice A0 n0 c0, .bool nb0, .slice B0 m0 d0] := (E1347.far q1250 b1313.lt (by simp)).trans b1313
  have b1354 : Bx v1347 q1265 t1271 #[.bool x1273, .slice A1274 m1275 c1276] := (E1347.far q1265 b1314.lt (by simp)).trans b1314
  have b1355 : Bx v1347 q1293 t1300 #[.bool x1302, .slice A1303 m1304 c1305] := (E1347.far q1293 b1315.lt (by simp)).trans b1315
  have b1356 : Bx v1347 q1327 t1335 #[.bool x1337, .slice A1338 m1339 c1340, .bool x1341, .slice A1342 m1343 c1344] := (E1347.far q1327 b1336.lt (by simp)).trans b1336
  have f1357 := (pair_mono f1316 E1347.mono)
  have f1360 := (f1319.mono E1347.mono)
  have f1363 := (f1322.mono E1347.mono)
  have f1366 := (pair_mono f1346 E1347.mono)
  have e1369 : g1347 2 = (.bool false) := E1347.facts 2 (by decide)
  refine then_normal ?_
  refine wp_cond_false e1369 ?_
  refine wp_skip ?_
  refine then_normal ?_
  refine wp_seq ?_
  have HB : w.heap.size ≤ v1347.heap.size := T1348.size
  refine wp_plan_any [.val (.is (.int .i64 0)), .val (.is (.bool true)), .val (.is (.bool true)), .val (.is (.int .i64 0)), .val (.is (.bool true)), .val (.is (.bool true)), .val (.is (.bool true)), .val (.is (.int .i64 0)), .val (.is (.bool true)), .val (.is (.bool true)), .val (.is (.bool true)), .val (.cz (fl p q)), .val (.pair (.az 1048576 p) (.az 1048576 q)), .val (.cz (fl p q)), .val (.is (.bool true)), .val (.is (.bool true)), .val (.is (.bool true)), .val (.cz (fl (p + p + q) (q + q))), .val (.pair (.az 1048576 p) (.az 1048576 q)), .val (.cz (fl (p + p + q) (q + q))), .val (.is (.bool true)), .val (.is (.bool true)), .val (.is (.bool true)), .val (.pair (.cz ((rn ((p * 1) - ((fl (p + p + q) (q + q)) * q)) (q * 1)).natAbs : Int)) (.cz (rd ((p * 1) - ((fl (p + p + q) (q + q)) * q)) (q * 1)))), .val (.pair (.az 1048576 p) (.az 1048576 q)), .val (.pair (.cz ((rn ((p * 1) - ((fl (p + p + q) (q + q)) * q)) (q * 1)).natAbs : Int)) (.cz (rd ((p * 1) - ((fl (p + p + q) (q + q)) * q)) (q * 1)))), .val (.is (.bool true)), .val (.is (.bool true)), .val (.is (.bool true)), .val (.is (.bool true)), .val (.is (.bool true)), .val (.is (.bool true))] [] [] w.heap.size (by kernel_rfl) (by kernel_rfl) (by kernel_rfl) trivial HB ?_ ?_
  · exact ⟨fun s v h => does_val rfl rfl (x_move) ((h.same 4 rfl).trans e1264),
      fun s v h => does_val rfl rfl (x_eql_err (h.dep 0 rfl) rfl) rfl,
      fun s v h => does_val rfl rfl (x_move) (h.dep 1 rfl),
      fun s v h => does_val rfl (wanted_by (b := true) (want := true) rfl rfl (h.dep 2 rfl)) (x_move) ((h.same 6 rfl).trans e1292),
      fun s v h => does_val rfl (wanted_by (b := true) (want := true) rfl rfl (h.dep 2 rfl)) (x_eql_err (h.dep 3 rfl) rfl) rfl,
      fun s v h => does_val rfl rfl (x_pick (h.dep 2 rfl)) (h.dep 4 rfl),
      fun s v h => does_val rfl rfl (x_move) (h.dep 5 rfl),
      fun s v h => does_val rfl (wanted_by (b := true) (want := true) rfl rfl (h.dep 6 rfl)) (x_move) ((h.same 8 rfl).trans e1326),
      fun s v h => does_val rfl (wanted_by (b := true) (want := true) rfl rfl (h.dep 6 rfl)) (x_eql_err (h.dep 7 rfl) rfl) rfl,
      fun s v h => does_val rfl rfl (x_pick (h.dep 6 rfl)) (h.dep 8 rfl),
      fun s v h => does_val rfl rfl (x_move) (h.dep 9 rfl),
      fun s v h => does_val rfl (wanted_by (b := true) (want := true) rfl rfl (h.dep 10 rfl)) (x_load_z ((h.same 3 rfl).trans p1266) ((h.far q1265 b1354.lt (by simp)).trans b1354)) (f1360.mono ((Mono.drew _).trans h.mono)),
      fun s v h => does_val rfl (wanted_by (b := true) (want := true) rfl rfl (h.dep 10 rfl)) (x_load_r ((h.same 1 rfl).trans p1251) ((h.far q1250 b1353.lt (by simp)).trans b1353)) (pair_mono f1357 ((Mono.drew _).trans h.mono)),
      fun s v h => does_call rfl (wanted_by (b := true) (want := true) rfl rfl (h.dep 10 rfl)) (x_call1 Try.call36) (r3floor_k (h.dep 12 rfl) (by omega) hq0),
      fun s v h => does_call rfl (wanted_by (b := true) (want := true) rfl rfl (h.dep 10 rfl)) (x_call2 Try.call35) (whole_k (h.dep 11 rfl) (h.dep 13 rfl) rfl),
      fun s v h => does_val rfl rfl (x_pick (h.dep 10 rfl)) (h.dep 14 rfl),
      fun s v h => does_val rfl rfl (x_move) (h.dep 15 rfl),
      fun s v h => does_val rfl (wanted_by (b := true) (want := true) rfl rfl (h.dep 16 rfl)) (x_load_z ((h.same 5 rfl).trans p1294) ((h.far q1293 b1355.lt (by simp)).trans b1355)) (f1363.mono ((Mono.drew _).trans h.mono)),
      fun s v h => does_val rfl (wanted_by (b := true) (want := true) rfl rfl (h.dep 16 rfl)) (x_load_r ((h.same 1 rfl).trans p1251) ((h.far q1250 b1353.lt (by simp)).trans b1353)) (pair_mono f1357 ((Mono.drew _).trans h.mono)),
      fun s v h => does_call rfl (wanted_by (b := true) (want := true) rfl rfl (h.dep 16 rfl)) (x_call1 Try.call37) (r3near_k (h.dep 18 rfl) (by omega) hp),
      fun s v h => does_call rfl (wanted_by (b := true) (want := true) rfl rfl (h.dep 16 rfl)) (x_call2 Try.call35) (whole_k (h.dep 17 rfl) (h.dep 19 rfl) rfl),
      fun s v h => does_val rfl rfl (x_pick (h.dep 16 rfl)) (h.dep 20 rfl),
      fun s v h => does_val rfl rfl (x_move) (h.dep 21 rfl),
      fun s v h => does_val rfl (wanted_by (b := true) (want := true) rfl rfl (h.dep 22 rfl)) (x_load_r ((h.same 7 rfl).trans p1328) ((h.far q1327 b1356.lt (by simp)).trans b1356)) (pair_mono f1366 ((Mono.drew _).trans h.mono)),
      fun s v h => does_val rfl (wanted_by (b := true) (want := true) rfl rfl (h.dep 22 rfl)) (x_load_r ((h.same 1 rfl).trans p1251) ((h.far q1250 b1353.lt (by simp)).trans b1353)) (pair_mono f1357 ((Mono.drew _).trans h.mono)),
      fun s v h => does_call rfl (wanted_by (b := true) (want := true) rfl rfl (h.dep 22 rfl)) (x_call1 Try.call38) (r3dist_k (h.dep 24 rfl) (by omega) hp),
      fun s v h => does_call rfl (wanted_by (b := true) (want := true) rfl rfl (h.dep 22 rfl)) (x_call2 Try.call15) (lsame_k (h.dep 23 rfl) (h.dep 25 rfl) rfl rfl),
      fun s v h => does_val rfl rfl (x_pick (h.dep 22 rfl)) (h.dep 26 rfl),
      fun s v h => does_val rfl rfl (x_move) (h.dep 27 rfl),
      fun s v h => does_call rfl (wanted_by (b := true) (want := true) rfl rfl (h.dep 28 rfl)) (x_call0 Try.call16) (lawake_k),
      fun s v h => does_val rfl rfl (x_pick (h.dep 28 rfl)) (h.dep 29 rfl),
      fun s v h => does_val rfl rfl (x_assign) (h.dep 30 rfl), trivial⟩
  intro g1370 ts v1370 hts E1370
  simp only [fillL, Nat.reduceAdd, List.setIfInBounds_toArray, List.set_cons_zero, List.set_cons_succ] at hts
  subst hts
  have T1371 : Below w.heap.size w v1370 := (below_toDrew T1348).trans E1370.below
  have l1372 : q1250 < v1347.heap.size := b1353.lt
  have l1373 : q1265 < v1347.heap.size := b1354.lt
  have l1374 : q1293 < v1347.heap.size := b1355.lt
  have l1375 : q1327 < v1347.heap.size := b1356.lt
  have e1422 : g1370 31 = (.bool true) := E1370.facts 31 (by decide)
  refine then_normal ?_
  refine wp_ret ?_
  exact bodyPost_ret (results_tmp (t := 2) rfl _ _ _) rfl ⟨_, rfl, e1422, T1371⟩

set_option maxHeartbeats 4000000 in
set_option maxRecDepth 8000 in
theorem rr_b {w : World} {x : Value} {p q : Int} (h0 : Rz 1048576 w x p q) (dk : decide (0 < q.sign) = false) (dv : decide (q.sign ≤ 0) = true)  : Calls Try.prog 9 #[x] w (Ret (.is (.bool true)) w) := by
  obtain ⟨na0, A0, n0, c0, nb0, B0, m0, d0, e0r, hx0, hy0⟩ := Rz.parts h0
  subst e0r
  have la0 := hx0.len
  have lb0 := hy0.len
  have T0 : Below w.heap.size w w := Below.refl _ _
  go_enter Try.func9, Try.ntmps9
  refine wp_seq ?_
  have HB : w.heap.size ≤ w.heap.size := T0.size
  refine wp_plan_seq [.new 4 (some (29, #[.bool na0, .slice A0 n0 c0, .bool nb0, .slice B0 m0 d0])), .val (.is (.bool false))] [] [] w.heap.size (by kernel_rfl) (by kernel_rfl) trivial HB ?_ ?_
  · exact ⟨fun s v h => does_new rfl rfl (x_box_r (h.same 0 rfl)) (okr _ _ _ _ _ _ _ _) rfl (.inr rfl),
      fun s v h => does_val rfl rfl (x_assign) rfl, trivial⟩
  intro g1423 ts v1423 hts E1423
  simp only [fillL, Nat.reduceAdd, List.setIfInBounds_toArray, List.set_cons_zero, List.set_cons_succ] at hts
  subst hts
  have T1424 : Below w.heap.size w v1423 := T0.trans E1423.below
  have f1425 := (pair_mono h0 E1423.mono)
  obtain ⟨q1427, p1428, l1429, o1430, b1431⟩ : ∃ q, g1423 0 = .pointer (some ⟨q, 0, none⟩) ∧ w.heap.size ≤ q ∧ OkB v1423 q 4 ∧ Bx v1423 q 29 #[.bool na0, .slice A0 n0 c0, .bool nb0, .slice B0 m0 d0] := E1423.facts 0 (by decide)
  have h1432 : w.heap.size ≤ q1427 := Nat.le_trans HB l1429
  refine then_normal ?_
  refine wp_seq ?_
  have HB : w.heap.size ≤ v1423.heap.size := T1424.size
  refine wp_plan_seq [.val (.pair (.az 1048576 p) (.az 1048576 q)), .val (.tup2 (.cz 0) (.is (.int .i64 30))), .val (.tup2 (.cz 0) (.is (.int .i64 30))), .val (.cz 0), .val (.is (.int .i64 30)), .new 2 none, .put 3 12, .val (.is (.int .i64 30))] [] [] w.heap.size (by kernel_rfl) (by kernel_rfl) trivial HB ?_ ?_
  · exact ⟨fun s v h => does_val rfl rfl (x_load_r ((h.same 1 rfl).trans p1428) ((h.far q1427 b1431.lt (by simp)).trans b1431)) (pair_mono f1425 h.mono),
      fun s v h => does_call rfl rfl (x_call1 Try.call12) (qfloor_b (h.dep 0 rfl) dv),
      fun s v h => does_val rfl rfl (x_move) (h.dep 1 rfl),
      fun s v h => by obtain ⟨r0, r1, e, f0, f1⟩ := tup2_at (h.dep 2 rfl); exact does_val rfl rfl (x_ext e rfl) f0,
      fun s v h => by obtain ⟨r0, r1, e, f0, f1⟩ := tup2_at (h.dep 2 rfl); exact does_val rfl rfl (x_ext e rfl) f1,
      fun s v h => does_new rfl rfl x_alloc_z (okz _ _ _ _) rfl (.inl rfl),
      fun s v h => by obtain ⟨q, e1, e2, e3⟩ := new_at (h.dep 5 rfl); exact does_put_z rfl rfl e1 (h.dep 3 rfl).shape e3 (Nat.le_trans HB e2),
      fun s v h => does_val rfl rfl (x_assign) (h.dep 4 rfl), trivial⟩
  intro g1433 ts v1433 hts E1433
  simp only [fillL, Nat.reduceAdd, List.setIfInBounds_toArray, List.set_cons_zero, List.set_cons_succ] at hts
  subst hts
  have T1434 : Below w.heap.size w v1433 := T1424.trans E1433.below
  have l1435 : q1427 < v1423.heap.size := b1431.lt
  have b1436 : Bx v1433 q1427 29 #[.bool na0, .slice A0 n0 c0, .bool nb0, .slice B0 m0 d0] := (E1433.far q1427 b1431.lt (by simp)).trans b1431
  have f1437 := (pair_mono f1425 E1433.mono)
  have f1439 : Cz v1433 (g1433 3) 0 := E1433.facts 3 (by decide)
  have e1441 : g1433 7 = (.int .i64 30) := E1433.facts 7 (by decide)
  obtain ⟨q1442, p1443, l1444, o1445⟩ : ∃ q, g1433 5 = .pointer (some ⟨q, 0, none⟩) ∧ v1423.heap.size ≤ q ∧ OkB v1433 q 2 := E1433.facts 5 (by decide)
  have h1446 : w.heap.size ≤ q1442 := Nat.le_trans HB l1444
  obtain ⟨t1448, x1450, A1451, m1452, c1453, e1454, b1449⟩ := put_info (E1433.facts 6 (by decide)) p1443 f1439.shape
  have f1455 : Cz v1433 (.agg #[.bool x1450, .slice A1451 m1452 c1453]) 0 := f1439.at e1454.symm
  refine then_normal ?_
  refine wp_seq ?_
  have HB : w.heap.size ≤ v1433.heap.size := T1434.size
  refine wp_plan_seq [.val (.pair (.az 1048576 p) (.az 1048576 q)), .val (.tup2 (.cz 0) (.is (.int .i64 30))), .val (.tup2 (.cz 0) (.is (.int .i64 30))), .val (.cz 0), .val (.is (.int .i64 30)), .new 2 none, .put 5 17, .val (.is (.int .i64 30))] [] [] w.heap.size (by kernel_rfl) (by kernel_rfl) trivial HB ?_ ?_
  · exact ⟨fun s v h => does_val rfl rfl (x_load_r ((h.same 1 rfl).trans p1428) ((h.far q1427 b1436.lt (by simp)).trans b1436)) (pair_mono f1437 h.mono),
      fun s v h => does_call rfl rfl (x_call1 Try.call32) (qnear_b (h.dep 0 rfl) dv),
      fun s v h => does_val rfl rfl (x_move) (h.dep 1 rfl),
      fun s v h => by obtain ⟨r0, r1, e, f0, f1⟩ := tup2_at (h.dep 2 rfl); exact does_val rfl rfl (x_ext e rfl) f0,
      fun s v h => by obtain ⟨r0, r1, e, f0, f1⟩ := tup2_at (h.dep 2 rfl); exact does_val rfl rfl (x_ext e rfl) f1,
      fun s v h => does_new rfl rfl x_alloc_z (okz _ _ _ _) rfl (.inl rfl),
      fun s v h => by obtain ⟨q, e1, e2, e3⟩ := new_at (h.dep 5 rfl); exact does_put_z rfl rfl e1 (h.dep 3 rfl).shape e3 (Nat.le_trans HB e2),
      fun s v h => does_val rfl rfl (x_assign) (h.dep 4 rfl), trivial⟩
  intro g1456 ts v1456 hts E1456
  simp only [fillL, Nat.reduceAdd, List.setIfInBounds_toArray, List.set_cons_zero, List.set_cons_succ] at hts
  subst hts
  have T1457 : Below w.heap.size w v1456 := T1434.trans E1456.below
  have l1458 : q1427 < v1433.heap.size := b1436.lt
  have l1459 : q1442 < v1433.heap.size := b1449.lt
  have b1460 : Bx v1456 q1427 29 #[.bool na0, .slice A0 n0 c0, .bool nb0, .slice B0 m0 d0] := (E1456.far q1427 b1436.lt (by simp)).trans b1436
  have b1461 : Bx v1456 q1442 t1448 #[.bool x1450, .slice A1451 m1452 c1453] := (E1456.far q1442 b1449.lt (by simp)).trans b1449
  have f1462 := (pair_mono f1437 E1456.mono)
  have f1465 := (f1455.mono E1456.mono)
  have f1467 : Cz v1456 (g1456 3) 0 := E1456.facts 3 (by decide)
  have e1469 : g1456 7 = (.int .i64 30) := E1456.facts 7 (by decide)
  obtain ⟨q1470, p1471, l1472, o1473⟩ : ∃ q, g1456 5 = .pointer (some ⟨q, 0, none⟩) ∧ v1433.heap.size ≤ q ∧ OkB v1456 q 2 := E1456.facts 5 (by decide)
  have h1474 : w.heap.size ≤ q1470 := Nat.le_trans HB l1472
  obtain ⟨t1477, x1479, A1480, m1481, c1482, e1483, b1478⟩ := put_info (E1456.facts 6 (by decide)) p1471 f1467.shape
  have f1484 : Cz v1456 (.agg #[.bool x1479, .slice A1480 m1481 c1482]) 0 := f1467.at e1483.symm
  refine then_normal ?_
  refine wp_seq ?_
  have HB : w.heap.size ≤ v1456.heap.size := T1457.size
  refine wp_plan_seq [.val (.pair (.az 1048576 p) (.az 1048576 q)), .val (.tup2 (.pair (.cz 0) (.cz 0)) (.is (.int .i64 30))), .val (.tup2 (.pair (.cz 0) (.cz 0)) (.is (.int .i64 30))), .val (.pair (.cz 0) (.cz 0)), .val (.is (.int .i64 30)), .new 4 none, .put 7 22, .val (.is (.int .i64 30))] [] [] w.heap.size (by kernel_rfl) (by kernel_rfl) trivial HB ?_ ?_
  · exact ⟨fun s v h => does_val rfl rfl (x_load_r ((h.same 1 rfl).trans p1428) ((h.far q1427 b1460.lt (by simp)).trans b1460)) (pair_mono f1462 h.mono),
      fun s v h => does_call rfl rfl (x_call1 Try.call34) (qdist_b (h.dep 0 rfl) dv),
      fun s v h => does_val rfl rfl (x_move) (h.dep 1 rfl),
      fun s v h => by obtain ⟨r0, r1, e, f0, f1⟩ := tup2_at (h.dep 2 rfl); exact does_val rfl rfl (x_ext e rfl) f0,
      fun s v h => by obtain ⟨r0, r1, e, f0, f1⟩ := tup2_at (h.dep 2 rfl); exact does_val rfl rfl (x_ext e rfl) f1,
      fun s v h => does_new rfl rfl x_alloc_r (okr _ _ _ _ _ _ _ _) rfl (.inl rfl),
      fun s v h => by obtain ⟨q, e1, e2, e3⟩ := new_at (h.dep 5 rfl); exact does_put_r rfl rfl e1 (pair_shape (num_cz _) (num_cz _) (h.dep 3 rfl)) e3 (Nat.le_trans HB e2),
      fun s v h => does_val rfl rfl (x_assign) (h.dep 4 rfl), trivial⟩
  intro g1485 ts v1485 hts E1485
  simp only [fillL, Nat.reduceAdd, List.setIfInBounds_toArray, List.set_cons_zero, List.set_cons_succ] at hts
  subst hts
  have T1486 : Below w.heap.size w v1485 := T1457.trans E1485.below
  have l1487 : q1427 < v1456.heap.size := b1460.lt
  have l1488 : q1442 < v1456.heap.size := b1461.lt
  have l1489 : q1470 < v1456.heap.size := b1478.lt
  have b1490 : Bx v1485 q1427 29 #[.bool na0, .slice A0 n0 c0, .bool nb0, .slice B0 m0 d0] := (E1485.far q1427 b1460.lt (by simp)).trans b1460
  have b1491 : Bx v1485 q1442 t1448 #[.bool x1450, .slice A1451 m1452 c1453] := (E1485.far q1442 b1461.lt (by simp)).trans b1461
  have b1492 : Bx v1485 q1470 t1477 #[.bool x1479, .slice A1480 m1481 c1482] := (E1485.far q1470 b1478.lt (by simp)).trans b1478
  have f1493 := (pair_mono f1462 E1485.mono)
  have f1496 := (f1465.mono E1485.mono)
  have f1499 := (f1484.mono E1485.mono)
  have f1501 : ((.pair (.cz 0) (.cz 0)) : Known).p v1485 (g1485 3) := E1485.facts 3 (by decide)
  have e1503 : g1485 7 = (.int .i64 30) := E1485.facts 7 (by decide)
  obtain ⟨q1504, p1505, l1506, o1507⟩ : ∃ q, g1485 5 = .pointer (some ⟨q, 0, none⟩) ∧ v1456.heap.size ≤ q ∧ OkB v1485 q 4 := E1485.facts 5 (by decide)
  have h1508 : w.heap.size ≤ q1504 := Nat.le_trans HB l1506
  obtain ⟨t1512, x1514, A1515, m1516, c1517, x1518, A1519, m1520, c1521, e1522, b1513⟩ := put_info4 (E1485.facts 6 (by decide)) p1505 (pair_shape (num_cz _) (num_cz _) f1501)
  have f1523 : ((.pair (.cz 0) (.cz 0)) : Known).p v1485 (.agg #[.bool x1514, .slice A1515 m1516 c1517, .bool x1518, .slice A1519 m1520 c1521]) := pair_at f1501 e1522.symm
  refine then_normal ?_
  refine wp_seq ?_
  refine wp_seq ?_
  have HB : w.heap.size ≤ v1485.heap.size := T1486.size
  refine wp_plan_seq [.val (.pair (.az 1048576 p) (.az 1048576 q)), .val (.is (.bool false)), .val (.is (.bool true))] [] [] w.heap.size (by kernel_rfl) (by kernel_rfl) trivial HB ?_ ?_
  · exact ⟨fun s v h => does_val rfl rfl (x_load_r ((h.same 1 rfl).trans p1428) ((h.far q1427 b1490.lt (by simp)).trans b1490)) (pair_mono f1493 h.mono),
      fun s v h => does_call rfl rfl (x_call1 Try.call31) (ret_lit dk (lok_k (h.dep 0 rfl) (by omega))),
      fun s v h => does_val rfl rfl (x_not (h.dep 1 rfl)) rfl, trivial⟩
  intro g1524 ts v1524 hts E1524
  simp only [fillL, Nat.reduceAdd, List.setIfInBounds_toArray, List.set_cons_zero, List.set_cons_succ] at hts
  subst hts
  have T1525 : Below w.heap.size w v1524 := T1486.trans E1524.below
  have l1526 : q1427 < v1485.heap.size := b1490.lt
  have l1527 : q1442 < v1485.heap.size := b1491.lt
  have l1528 : q1470 < v1485.heap.size := b1492.lt
  have l1529 : q1504 < v1485.heap.size := b1513.lt
  have b1530 : Bx v1524 q1427 29 #[.bool na0, .slice A0 n0 c0, .bool nb0, .slice B0 m0 d0] := (E1524.far q1427 b1490.lt (by simp)).trans b1490
  have b1531 : Bx v1524 q1442 t1448 #[.bool x1450, .slice A1451 m1452 c1453] := (E1524.far q1442 b1491.lt (by simp)).trans b1491
  have b1532 : Bx v1524 q1470 t1477 #[.bool x1479, .slice A1480 m1481 c1482] := (E1524.far q1470 b1492.lt (by simp)).trans b1492
  have b1533 : Bx v1524 q1504 t1512 #[.bool x1514, .slice A1515 m1516 c1517, .bool x1518, .slice A1519 m1520 c1521] := (E1524.far q1504 b1513.lt (by simp)).trans b1513
  have f1537 := (f1496.mono E1524.mono)
  have f1540 := (f1499.mono E1524.mono)
  have f1543 := (pair_mono f1523 E1524.mono)
  have e1546 : g1524 2 = (.bool true) := E1524.facts 2 (by decide)
  refine then_normal ?_
  refine wp_cond_true e1546 ?_
  refine wp_seq ?_
  have HB : w.heap.size ≤ v1524.heap.size := T1525.size
  refine wp_plan_seq [.val (.is (.int .i64 30)), .val (.is (.bool true)), .val (.is (.bool true)), .val (.is (.int .i64 30)), .val (.is (.bool true)), .val (.is (.bool true)), .val (.is (.bool true)), .val (.is (.int .i64 30)), .val (.is (.bool true)), .val (.is (.bool true)), .val (.is (.bool true)), .val (.cz 0), .val (.is (.agg #[.bool false, .slice none 0 0])), .val (.is (.bool true)), .val (.is (.bool true)), .val (.is (.bool true)), .val (.cz 0), .val (.is (.agg #[.bool false, .slice none 0 0])), .val (.is (.bool true)), .val (.is (.bool true)), .val (.is (.bool true)), .val (.pair (.cz 0) (.cz 0)), .val (.is (.agg #[.bool false, .slice none 0 0, .bool false, .slice none 0 0])), .val (.is (.bool true)), .val (.is (.bool true)), .val (.is (.bool true)), .val (.is (.bool true)), .val (.is (.bool true)), .val (.is (.bool true))] [] [] w.heap.size (by kernel_rfl) (by kernel_rfl) trivial HB ?_ ?_
  · exact ⟨fun s v h => does_val rfl rfl (x_move) ((h.same 4 rfl).trans e1441),
      fun s v h => does_val rfl rfl (x_eql_err (h.dep 0 rfl) rfl) rfl,
      fun s v h => does_val rfl rfl (x_move) (h.dep 1 rfl),
      fun s v h => does_val rfl (wanted_by (b := true) (want := true) rfl rfl (h.dep 2 rfl)) (x_move) ((h.same 6 rfl).trans e1469),
      fun s v h => does_val rfl (wanted_by (b := true) (want := true) rfl rfl (h.dep 2 rfl)) (x_eql_err (h.dep 3 rfl) rfl) rfl,
      fun s v h => does_val rfl rfl (x_pick (h.dep 2 rfl)) (h.dep 4 rfl),
      fun s v h => does_val rfl rfl (x_move) (h.dep 5 rfl),
      fun s v h => does_val rfl (wanted_by (b := true) (want := true) rfl rfl (h.dep 6 rfl)) (x_move) ((h.same 8 rfl).trans e1503),
      fun s v h => does_val rfl (wanted_by (b := true) (want := true) rfl rfl (h.dep 6 rfl)) (x_eql_err (h.dep 7 rfl) rfl) rfl,
      fun s v h => does_val rfl rfl (x_pick (h.dep 6 rfl)) (h.dep 8 rfl),
      fun s v h => does_val rfl rfl (x_move) (h.dep 9 rfl),
      fun s v h => does_val rfl (wanted_by (b := true) (want := true) rfl rfl (h.dep 10 rfl)) (x_load_z ((h.same 3 rfl).trans p1443) ((h.far q1442 b1531.lt (by simp)).trans b1531)) (f1537.mono h.mono),
      fun s v h => does_val rfl (wanted_by (b := true) (want := true) rfl rfl (h.dep 10 rfl)) x_build0 rfl,
      fun s v h => does_call rfl (wanted_by (b := true) (want := true) rfl rfl (h.dep 10 rfl)) (x_call2 Try.call35) (whole_k (h.dep 11 rfl) ((cz_zero _).at (h.dep 12 rfl)) rfl),
      fun s v h => does_val rfl rfl (x_pick (h.dep 10 rfl)) (h.dep 13 rfl),
      fun s v h => does_val rfl rfl (x_move) (h.dep 14 rfl),
      fun s v h => does_val rfl (wanted_by (b := true) (want := true) rfl rfl (h.dep 15 rfl)) (x_load_z ((h.same 5 rfl).trans p1471) ((h.far q1470 b1532.lt (by simp)).trans b1532)) (f1540.mono h.mono),
      fun s v h => does_val rfl (wanted_by (b := true) (want := true) rfl rfl (h.dep 15 rfl)) x_build0 rfl,
      fun s v h => does_call rfl (wanted_by (b := true) (want := true) rfl rfl (h.dep 15 rfl)) (x_call2 Try.call35) (whole_k (h.dep 16 rfl) ((cz_zero _).at (h.dep 17 rfl)) rfl),
      fun s v h => does_val rfl rfl (x_pick (h.dep 15 rfl)) (h.dep 18 rfl),
      fun s v h => does_val rfl rfl (x_move) (h.dep 19 rfl),
      fun s v h => does_val rfl (wanted_by (b := true) (want := true) rfl rfl (h.dep 20 rfl)) (x_load_r ((h.same 7 rfl).trans p1505) ((h.far q1504 b1533.lt (by simp)).trans b1533)) (pair_mono f1543 h.mono),
      fun s v h => does_val rfl (wanted_by (b := true) (want := true) rfl rfl (h.dep 20 rfl)) (x_build_r0) rfl,
      fun s v h => does_call rfl (wanted_by (b := true) (want := true) rfl rfl (h.dep 20 rfl)) (x_call2 Try.call15) (lsame_k (h.dep 21 rfl) (pair_at (rat_zero _) (h.dep 22 rfl)) rfl rfl),
      fun s v h => does_val rfl rfl (x_pick (h.dep 20 rfl)) (h.dep 23 rfl),
      fun s v h => does_val rfl rfl (x_move) (h.dep 24 rfl),
      fun s v h => does_call rfl (wanted_by (b := true) (want := true) rfl rfl (h.dep 25 rfl)) (x_call0 Try.call16) (lawake_k),
      fun s v h => does_val rfl rfl (x_pick (h.dep 25 rfl)) (h.dep 26 rfl),
      fun s v h => does_val rfl rfl (x_assign) (h.dep 27 rfl), trivial⟩
  intro g1547 ts v1547 hts E1547
  simp only [fillL, Nat.reduceAdd, List.setIfInBounds_toArray, List.set_cons_zero, List.set_cons_succ] at hts
  subst hts
  have T1548 : Below w.heap.size w v1547 := T1525.trans E1547.below
  have l1549 : q1427 < v1524.heap.size := b1530.lt
  have l1550 : q1442 < v1524.heap.size := b1531.lt
  have l1551 : q1470 < v1524.heap.size := b1532.lt
  have l1552 : q1504 < v1524.heap.size := b1533.lt
  have e1596 : g1547 28 = (.bool true) := E1547.facts 28 (by decide)
  refine then_normal ?_
  refine wp_ret ?_
  exact bodyPost_ret (results_tmp (t := 2) rfl _ _ _) rfl ⟨_, rfl, e1596, T1548⟩

theorem ratRounds_law (w : World) (v0 : Value) (x0 : Int × Int) (s0 : Rz 1048576 w v0 x0.1 x0.2) :
    Calls Try.prog 9 #[v0] w fun e w' => e = .returned (.bool true) ∧ Below w.heap.size w w' := by
  have fin : Calls Try.prog 9 #[v0] w (Ret (.is (.bool true)) w) := by
    obtain ⟨p, q⟩ := x0
    rcases one_ways q with ⟨hp, dk⟩ | ⟨dk, dv⟩
    · exact rr_a s0 hp dk
    · exact rr_b s0 dk dv
  refine fin.mono fun e w' h => ?_
  obtain ⟨r, e, hr, hB⟩ := h
  have hr : r = .bool true := hr
  exact ⟨by rw [e, hr], hB⟩
end Go.Proofs.Ytdmahjbjlppeaaa
