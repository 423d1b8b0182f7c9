/- The law ZintRests. -/
import Derived.Test.YtkidgeeedigkhaaYBez
import Derived.Test.YtkidgeeedigkhaaYCmp
namespace Go.Proofs.Ytkidgeeedigkhaa
open Go.RowKit

theorem bez_lenX {a b : Int} {N : Nat} (hb : b ≠ 0) (h : (digs b.natAbs).length ≤ N) : (digs (bezX a b).natAbs).length ≤ N := by
  refine len_le ?_ h
  obtain ⟨h0, h1, _⟩ := bezX_spec (a := a) hb
  have hg := gcd_pos (a := a) hb
  have h2 : bezX a b * 1 ≤ bezX a b * (Int.gcd a b : Int) := Int.mul_le_mul_of_nonneg_left (by omega) h0
  omega
theorem bez_lenY {a b : Int} (hb : b ≠ 0) (ha : (digs a.natAbs).length ≤ 1048576) (h : (digs b.natAbs).length ≤ 1048576) : (digs (fl ((Int.gcd a b : Int) - bezX a b * a) b).natAbs).length ≤ 10000000 := by
  have h1 := len_sub' (n := 2097154) (gcd_len (a := a) hb h) (len_mul (bez_lenX (a := a) hb h) ha) (by omega) (by omega)
  exact Nat.le_trans (fl_len h1) (by omega)
theorem near_len {a b : Int} (ha : (digs a.natAbs).length ≤ 1048576) (h : (digs b.natAbs).length ≤ 1048576) : (digs (fl (a + a + b) (b + b)).natAbs).length ≤ 10000000 := by
  have h1 := len_add' (n := 1048578) (len_add' (n := 1048577) ha ha (by omega) (by omega)) h (by omega) (by omega)
  exact Nat.le_trans (fl_len h1) (by omega)

set_option maxHeartbeats 4000000 in
set_option maxRecDepth 8000 in
theorem zr_a {w : World} {x0 : Value} {a : Int} (h0 : Az 1048576 w x0 a) {y0 : Value} {b : Int} (h1 : Az 1048576 w y0 b) (hu : b ≠ 0) (d0 : (b.sign == 0) = false) (d1 : ((md a b).sign == 0) = true) (d3 : decide (0 ≤ (((md a b).natAbs : Int) - (b.natAbs : Int)).sign) = false) (d4 : decide (0 < (2 * ((fl (a + a + b) (b + b) * b - a).natAbs : Int) - (b.natAbs : Int)).sign) = false) (d5 : decide ((Int.gcd a b : Int).sign ≤ 0) = false) (d6 : decide (0 ≤ (bezX a b).sign) = true) (d7 : decide ((bezX a b * (Int.gcd a b : Int) - (b.natAbs : Int)).sign < 0) = true)  : Calls Try.prog 8 #[x0, y0] w (Ret (.is (.bool true)) w) := by
  have la0 := h0.len
  obtain ⟨na0, A0, n0, c0, M0, rfl, hm0, hz0⟩ := h0.parts
  have la1 := h1.len
  obtain ⟨na1, A1, n1, c1, M1, rfl, hm1, hz1⟩ := h1.parts
  have lX : (digs (bezX a b).natAbs).length ≤ 1048576 := bez_lenX hu la1
  have lY : (digs (fl ((Int.gcd a b : Int) - bezX a b * a) b).natAbs).length ≤ 10000000 := bez_lenY hu la0 la1
  have lN : (digs (fl (a + a + b) (b + b)).natAbs).length ≤ 10000000 := near_len la0 la1
  have T0 : Below w.heap.size w w := Below.refl _ _
  go_enter Try.func8, Try.ntmps8
  refine wp_seq ?_
  have HB : w.heap.size ≤ w.heap.size := T0.size
  refine wp_plan_seq [.new 2 (some (24, #[.bool na0, .slice A0 n0 c0])), .new 2 (some (24, #[.bool na1, .slice A1 n1 c1])), .val (.is (.bool false))] [] [] w.heap.size (by kernel_rfl) (by kernel_rfl) trivial HB ?_ ?_
  · exact ⟨fun s v h => does_new rfl rfl (x_box_z (h.same 0 rfl)) (okz _ _ _ _) rfl (.inr rfl),
      fun s v h => does_new rfl rfl (x_box_z (h.same 1 rfl)) (okz _ _ _ _) rfl (.inr rfl),
      fun s v h => does_val rfl rfl (x_assign) rfl, trivial⟩
  intro g233 ts v233 hts E233
  simp only [fillL, Nat.reduceAdd, List.setIfInBounds_toArray, List.set_cons_zero, List.set_cons_succ] at hts
  subst hts
  have T234 : Below w.heap.size w v233 := T0.trans E233.below
  have f235 := h0.mono E233.mono
  have f236 := hm0.mono E233.mono
  have f237 := h1.mono E233.mono
  have f238 := hm1.mono E233.mono
  have e239 : g233 2 = (.bool false) := E233.facts 2 (by decide)
  obtain ⟨q240, p241, l242, o243, b244⟩ : ∃ q, g233 0 = .pointer (some ⟨q, 0, none⟩) ∧ w.heap.size ≤ q ∧ OkB v233 q 2 ∧ Bx v233 q 24 #[.bool na0, .slice A0 n0 c0] := E233.facts 0 (by decide)
  have h245 : w.heap.size ≤ q240 := Nat.le_trans HB l242
  obtain ⟨q246, p247, l248, o249, b250⟩ : ∃ q, g233 1 = .pointer (some ⟨q, 0, none⟩) ∧ w.heap.size ≤ q ∧ OkB v233 q 2 ∧ Bx v233 q 24 #[.bool na1, .slice A1 n1 c1] := E233.facts 1 (by decide)
  have h251 : w.heap.size ≤ q246 := Nat.le_trans HB l248
  have n252 : q240 ≠ q246 := apart_ne (E233.apart 0 1 (by decide) (by decide) (by decide) ⟨_, _, rfl⟩ ⟨_, _, rfl⟩) p241 p247
  refine then_normal ?_
  refine wp_seq ?_
  refine wp_seq ?_
  have HB : w.heap.size ≤ v233.heap.size := T234.size
  refine wp_plan_seq [.val (.is (.bool true)), .val (.is (.bool false))] [] [] w.heap.size (by kernel_rfl) (by kernel_rfl) trivial HB ?_ ?_
  · exact ⟨fun s v h => does_call rfl rfl (x_call0 Try.call11) (alive_k),
      fun s v h => does_val rfl rfl (x_not (h.dep 0 rfl)) rfl, trivial⟩
  intro g253 ts v253 hts E253
  simp only [fillL, Nat.reduceAdd, List.setIfInBounds_toArray, List.set_cons_zero, List.set_cons_succ] at hts
  subst hts
  have T254 : Below w.heap.size w v253 := T234.trans E253.below
  have l255 : q240 < v233.heap.size := b244.lt
  have l256 : q246 < v233.heap.size := b250.lt
  have b257 : Bx v253 q240 24 #[.bool na0, .slice A0 n0 c0] := (E253.far q240 b244.lt (by simp)).trans b244
  have b258 : Bx v253 q246 24 #[.bool na1, .slice A1 n1 c1] := (E253.far q246 b250.lt (by simp)).trans b250
  have f259 := f235.mono E253.mono
  have f260 := f236.mono E253.mono
  have f261 := f237.mono E253.mono
  have f262 := f238.mono E253.mono
  have e263 : g253 0 = (.bool true) := E253.facts 0 (by decide)
  have e264 : g253 1 = (.bool false) := E253.facts 1 (by decide)
  refine then_normal ?_
  refine wp_cond_false e264 ?_
  refine wp_skip ?_
  refine then_normal ?_
  refine wp_seq ?_
  have HB : w.heap.size ≤ v253.heap.size := T254.size
  refine wp_plan_seq [.val (.az 1048576 a), .val (.az 1048576 b), .val (.tup3 (.cz (fl a b)) (.cz (md a b)) (.is (.int .i64 0))), .val (.tup3 (.cz (fl a b)) (.cz (md a b)) (.is (.int .i64 0))), .val (.cz (fl a b)), .val (.cz (md a b)), .val (.is (.int .i64 0)), .new 2 none, .new 2 none, .put 5 24, .put 6 25, .val (.is (.int .i64 0))] [] [] w.heap.size (by kernel_rfl) (by kernel_rfl) trivial HB ?_ ?_
  · exact ⟨fun s v h => does_val rfl rfl (x_load_z ((h.same 2 rfl).trans p241) ((h.far q240 b257.lt (by simp)).trans b257)) (f259.mono h.mono),
      fun s v h => does_val rfl rfl (x_load_z ((h.same 3 rfl).trans p247) ((h.far q246 b258.lt (by simp)).trans b258)) (f261.mono h.mono),
      fun s v h => does_call rfl rfl (x_call2 Try.call24) (zfloor_k (h.dep 0 rfl) (h.dep 1 rfl) (by omega) (by omega) hu),
      fun s v h => does_val rfl rfl (x_move) (h.dep 2 rfl),
      fun s v h => by obtain ⟨r0, r1, r2, e, f0, f1, f2⟩ := tup3_at (h.dep 3 rfl); exact does_val rfl rfl (x_ext e rfl) f0,
      fun s v h => by obtain ⟨r0, r1, r2, e, f0, f1, f2⟩ := tup3_at (h.dep 3 rfl); exact does_val rfl rfl (x_ext e rfl) f1,
      fun s v h => by obtain ⟨r0, r1, r2, e, f0, f1, f2⟩ := tup3_at (h.dep 3 rfl); exact does_val rfl rfl (x_ext e rfl) f2,
      fun s v h => does_new rfl rfl x_alloc_z (okz _ _ _ _) rfl (.inl rfl),
      fun s v h => does_new rfl rfl x_alloc_z (okz _ _ _ _) rfl (.inl rfl),
      fun s v h => by obtain ⟨q, e1, e2, e3⟩ := new_at (h.dep 7 rfl); exact does_put_z rfl rfl e1 (h.dep 4 rfl).shape e3 (Nat.le_trans HB e2),
      fun s v h => by obtain ⟨q, e1, e2, e3⟩ := new_at (h.dep 8 rfl); exact does_put_z rfl rfl e1 (h.dep 5 rfl).shape e3 (Nat.le_trans HB e2),
      fun s v h => does_val rfl rfl (x_assign) (h.dep 6 rfl), trivial⟩
  intro g265 ts v265 hts E265
  simp only [fillL, Nat.reduceAdd, List.setIfInBounds_toArray, List.set_cons_zero, List.set_cons_succ] at hts
  subst hts
  have T266 : Below w.heap.size w v265 := T254.trans E265.below
  have l267 : q240 < v253.heap.size := b257.lt
  have l268 : q246 < v253.heap.size := b258.lt
  have b269 : Bx v265 q240 24 #[.bool na0, .slice A0 n0 c0] := (E265.far q240 b257.lt (by simp)).trans b257
  have b270 : Bx v265 q246 24 #[.bool na1, .slice A1 n1 c1] := (E265.far q246 b258.lt (by simp)).trans b258
  have f271 := f259.mono E265.mono
  have f272 := f260.mono E265.mono
  have f273 := f261.mono E265.mono
  have f274 := f262.mono E265.mono
  have f275 : Az 1048576 v265 (g265 0) a := E265.facts 0 (by decide)
  have f276 : Az 1048576 v265 (g265 1) b := E265.facts 1 (by decide)
  have f277 : Cz v265 (g265 4) (fl a b) := E265.facts 4 (by decide)
  have f278 : Cz v265 (g265 5) (md a b) := E265.facts 5 (by decide)
  have e279 : g265 6 = (.int .i64 0) := E265.facts 6 (by decide)
  have e280 : g265 11 = (.int .i64 0) := E265.facts 11 (by decide)
  obtain ⟨q281, p282, l283, o284⟩ : ∃ q, g265 7 = .pointer (some ⟨q, 0, none⟩) ∧ v253.heap.size ≤ q ∧ OkB v265 q 2 := E265.facts 7 (by decide)
  have h285 : w.heap.size ≤ q281 := Nat.le_trans HB l283
  have n286 : q240 ≠ q281 := by omega
  have n287 : q246 ≠ q281 := by omega
  obtain ⟨q288, p289, l290, o291⟩ : ∃ q, g265 8 = .pointer (some ⟨q, 0, none⟩) ∧ v253.heap.size ≤ q ∧ OkB v265 q 2 := E265.facts 8 (by decide)
  have h292 : w.heap.size ≤ q288 := Nat.le_trans HB l290
  have n293 : q240 ≠ q288 := by omega
  have n294 : q246 ≠ q288 := by omega
  have n295 : q281 ≠ q288 := apart_ne (E265.apart 7 8 (by decide) (by decide) (by decide) ⟨_, _, rfl⟩ ⟨_, _, rfl⟩) p282 p289
  obtain ⟨t296, x298, A299, m300, c301, e302, b297⟩ := put_info (E265.facts 9 (by decide)) p282 f277.shape
  have f303 : Cz v265 (.agg #[.bool x298, .slice A299 m300 c301]) (fl a b) := f277.at e302.symm
  obtain ⟨t304, x306, A307, m308, c309, e310, b305⟩ := put_info (E265.facts 10 (by decide)) p289 f278.shape
  have f311 : Cz v265 (.agg #[.bool x306, .slice A307 m308 c309]) (md a b) := f278.at e310.symm
  refine then_normal ?_
  refine wp_seq ?_
  have HB : w.heap.size ≤ v265.heap.size := T266.size
  refine wp_plan_seq [.val (.az 1048576 a), .val (.az 1048576 b), .val (.tup2 (.cz (fl (a + a + b) (b + b))) (.is (.int .i64 0))), .val (.tup2 (.cz (fl (a + a + b) (b + b))) (.is (.int .i64 0))), .val (.cz (fl (a + a + b) (b + b))), .val (.is (.int .i64 0)), .new 2 none, .put 8 31, .val (.is (.int .i64 0))] [] [] w.heap.size (by kernel_rfl) (by kernel_rfl) trivial HB ?_ ?_
  · exact ⟨fun s v h => does_val rfl rfl (x_load_z ((h.same 2 rfl).trans p241) ((h.far q240 b269.lt (by simp)).trans b269)) (f271.mono h.mono),
      fun s v h => does_val rfl rfl (x_load_z ((h.same 3 rfl).trans p247) ((h.far q246 b270.lt (by simp)).trans b270)) (f273.mono h.mono),
      fun s v h => does_call rfl rfl (x_call2 Try.call25) (znear_k (h.dep 0 rfl) (h.dep 1 rfl) (by omega) (by omega) (by omega)),
      fun s v h => does_val rfl rfl (x_move) (h.dep 2 rfl),
      fun s v h => by obtain ⟨r0, r1, e, f0, f1⟩ := tup2_at (h.dep 3 rfl); exact does_val rfl rfl (x_ext e rfl) f0,
      fun s v h => by obtain ⟨r0, r1, e, f0, f1⟩ := tup2_at (h.dep 3 rfl); exact does_val rfl rfl (x_ext e rfl) f1,
      fun s v h => does_new rfl rfl x_alloc_z (okz _ _ _ _) rfl (.inl rfl),
      fun s v h => by obtain ⟨q, e1, e2, e3⟩ := new_at (h.dep 6 rfl); exact does_put_z rfl rfl e1 (h.dep 4 rfl).shape e3 (Nat.le_trans HB e2),
      fun s v h => does_val rfl rfl (x_assign) (h.dep 5 rfl), trivial⟩
  intro g312 ts v312 hts E312
  simp only [fillL, Nat.reduceAdd, List.setIfInBounds_toArray, List.set_cons_zero, List.set_cons_succ] at hts
  subst hts
  have T313 : Below w.heap.size w v312 := T266.trans E312.below
  have l314 : q240 < v265.heap.size := b269.lt
  have l315 : q246 < v265.heap.size := b270.lt
  have l316 : q281 < v265.heap.size := b297.lt
  have l317 : q288 < v265.heap.size := b305.lt
  have b318 : Bx v312 q240 24 #[.bool na0, .slice A0 n0 c0] := (E312.far q240 b269.lt (by simp)).trans b269
  have b319 : Bx v312 q246 24 #[.bool na1, .slice A1 n1 c1] := (E312.far q246 b270.lt (by simp)).trans b270
  have b320 : Bx v312 q281 t296 #[.bool x298, .slice A299 m300 c301] := (E312.far q281 b297.lt (by simp)).trans b297
  have b321 : Bx v312 q288 t304 #[.bool x306, .slice A307 m308 c309] := (E312.far q288 b305.lt (by simp)).trans b305
  have f322 := f271.mono E312.mono
  have f323 := f272.mono E312.mono
  have f324 := f273.mono E312.mono
  have f325 := f274.mono E312.mono
  have f326 := f275.mono E312.mono
  have f327 := f276.mono E312.mono
  have f328 := f277.mono E312.mono
  have f329 := f278.mono E312.mono
  have f330 := f303.mono E312.mono
  have f331 := f311.mono E312.mono
  have f332 : Az 1048576 v312 (g312 0) a := E312.facts 0 (by decide)
  have f333 : Az 1048576 v312 (g312 1) b := E312.facts 1 (by decide)
  have f334 : Cz v312 (g312 4) (fl (a + a + b) (b + b)) := E312.facts 4 (by decide)
  have e335 : g312 5 = (.int .i64 0) := E312.facts 5 (by decide)
  have e336 : g312 8 = (.int .i64 0) := E312.facts 8 (by decide)
  obtain ⟨q337, p338, l339, o340⟩ : ∃ q, g312 6 = .pointer (some ⟨q, 0, none⟩) ∧ v265.heap.size ≤ q ∧ OkB v312 q 2 := E312.facts 6 (by decide)
  have h341 : w.heap.size ≤ q337 := Nat.le_trans HB l339
  have n342 : q240 ≠ q337 := by omega
  have n343 : q246 ≠ q337 := by omega
  have n344 : q281 ≠ q337 := by omega
  have n345 : q288 ≠ q337 := by omega
  obtain ⟨t346, x348, A349, m350, c351, e352, b347⟩ := put_info (E312.facts 7 (by decide)) p338 f334.shape
  have f353 : Cz v312 (.agg #[.bool x348, .slice A349 m350 c351]) (fl (a + a + b) (b + b)) := f334.at e352.symm
  refine then_normal ?_
  refine wp_seq ?_
  refine wp_seq ?_
  have HB : w.heap.size ≤ v312.heap.size := T313.size
  refine wp_plan_seq [.val (.az 1048576 b), .val (.is (.int .i64 b.sign)), .val (.is (.bool false))] [] [] w.heap.size (by kernel_rfl) (by kernel_rfl) trivial HB ?_ ?_
  · exact ⟨fun s v h => does_val rfl rfl (x_load_z ((h.same 3 rfl).trans p247) ((h.far q246 b319.lt (by simp)).trans b319)) (f324.mono h.mono),
      fun s v h => does_call rfl rfl (x_call1 Try.call39) (sign_k (h.dep 0 rfl)),
      fun s v h => does_val rfl rfl (x_eql_int (h.dep 1 rfl) rfl) (congrArg Value.bool d0), trivial⟩
  intro g354 ts v354 hts E354
  simp only [fillL, Nat.reduceAdd, List.setIfInBounds_toArray, List.set_cons_zero, List.set_cons_succ] at hts
  subst hts
  have T355 : Below w.heap.size w v354 := T313.trans E354.below
  have l356 : q240 < v312.heap.size := b318.lt
  have l357 : q246 < v312.heap.size := b319.lt
  have l358 : q281 < v312.heap.size := b320.lt
  have l359 : q288 < v312.heap.size := b321.lt
  have l360 : q337 < v312.heap.size := b347.lt
  have b361 : Bx v354 q240 24 #[.bool na0, .slice A0 n0 c0] := (E354.far q240 b318.lt (by simp)).trans b318
  have b362 : Bx v354 q246 24 #[.bool na1, .slice A1 n1 c1] := (E354.far q246 b319.lt (by simp)).trans b319
  have b363 : Bx v354 q281 t296 #[.bool x298, .slice A299 m300 c301] := (E354.far q281 b320.lt (by simp)).trans b320
  have b364 : Bx v354 q288 t304 #[.bool x306, .slice A307 m308 c309] := (E354.far q288 b321.lt (by simp)).trans b321
  have b365 : Bx v354 q337 t346 #[.bool x348, .slice A349 m350 c351] := (E354.far q337 b347.lt (by simp)).trans b347
  have f366 := f322.mono E354.mono
  have f367 := f323.mono E354.mono
  have f368 := f324.mono E354.mono
  have f369 := f325.mono E354.mono
  have f370 := f326.mono E354.mono
  have f371 := f327.mono E354.mono
  have f372 := f328.mono E354.mono
  have f373 := f329.mono E354.mono
  have f374 := f330.mono E354.mono
  have f375 := f331.mono E354.mono
  have f376 := f332.mono E354.mono
  have f377 := f333.mono E354.mono
  have f378 := f334.mono E354.mono
  have f379 := f353.mono E354.mono
  have f380 : Az 1048576 v354 (g354 0) b := E354.facts 0 (by decide)
  have e381 : g354 1 = (.int .i64 b.sign) := E354.facts 1 (by decide)
  have e382 : g354 2 = (.bool false) := E354.facts 2 (by decide)
  refine then_normal ?_
  refine wp_cond_false e382 ?_
  refine wp_skip ?_
  refine then_normal ?_
  refine wp_seq ?_
  refine wp_seq ?_
  have HB : w.heap.size ≤ v354.heap.size := T355.size
  refine wp_plan_any [.val (.is (.int .i64 0)), .val (.is (.bool false)), .val (.is (.bool false)), .val (.is (.int .i64 0)), .val (.is (.bool false)), .val (.is (.bool false)), .val (.is (.bool false)), .val (.cz (fl a b)), .val (.az 1048576 b), .val (.cz ((fl a b) * b)), .val (.cz (md a b)), .val (.cz (((fl a b) * b) + (md a b))), .val (.az 1048576 a), .val (.cz a), .val (.is (.bool true)), .val (.is (.bool false)), .val (.is (.bool false)), .val (.is (.bool false)), .val (.cz (md a b)), .val (.is (.int .i64 (md a b).sign)), .val (.is (.bool false)), .val (.is (.bool false)), .val .any, .val .any, .val .any, .val .any, .val .any, .val (.is (.bool false)), .val (.is (.bool false)), .val (.is (.bool false)), .val (.cz (md a b)), .val (.cz ((md a b).natAbs : Int)), .val (.az 1048576 b), .val (.cz (b.natAbs : Int)), .val (.is (.int .i64 (((md a b).natAbs : Int) - (b.natAbs : Int)).sign)), .val (.is (.bool false)), .val (.is (.bool false))] [] [] w.heap.size (by kernel_rfl) (by kernel_rfl) (by kernel_rfl) trivial HB ?_ ?_
  · exact ⟨fun s v h => does_val rfl rfl (x_move) ((h.same 7 rfl).trans e280),
      fun s v h => does_val rfl rfl (x_neq_err (h.dep 0 rfl) rfl) rfl,
      fun s v h => does_val rfl rfl (x_move) (h.dep 1 rfl),
      fun s v h => does_val rfl (wanted_by (b := false) (want := false) rfl rfl (h.dep 2 rfl)) (x_move) ((h.same 9 rfl).trans e336),
      fun s v h => does_val rfl (wanted_by (b := false) (want := false) rfl rfl (h.dep 2 rfl)) (x_neq_err (h.dep 3 rfl) rfl) rfl,
      fun s v h => does_val rfl rfl (x_pick (h.dep 2 rfl)) (h.dep 4 rfl),
      fun s v h => does_val rfl rfl (x_move) (h.dep 5 rfl),
      fun s v h => does_val rfl (wanted_by (b := false) (want := false) rfl rfl (h.dep 6 rfl)) (x_load_z ((h.same 5 rfl).trans p282) ((h.far q281 b363.lt (by simp)).trans b363)) (f374.mono ((Mono.drew _).trans h.mono)),
      fun s v h => does_val rfl (wanted_by (b := false) (want := false) rfl rfl (h.dep 6 rfl)) (x_load_z ((h.same 3 rfl).trans p247) ((h.far q246 b362.lt (by simp)).trans b362)) (f368.mono ((Mono.drew _).trans h.mono)),
      fun s v h => does_call rfl (wanted_by (b := false) (want := false) rfl rfl (h.dep 6 rfl)) (x_call2 Try.call16) (mul_k ((h.dep 7 rfl).az (N := (1048576 + 1)) (fl_len la0)) (h.dep 8 rfl) (by omega) (by omega)),
      fun s v h => does_val rfl (wanted_by (b := false) (want := false) rfl rfl (h.dep 6 rfl)) (x_load_z ((h.same 6 rfl).trans p289) ((h.far q288 b364.lt (by simp)).trans b364)) (f375.mono ((Mono.drew _).trans h.mono)),
      fun s v h => does_call rfl (wanted_by (b := false) (want := false) rfl rfl (h.dep 6 rfl)) (x_call2 Try.call14) (add_k ((h.dep 9 rfl).az (N := ((1048576 + 1) + 1048576)) (len_mul (fl_len la0) la1)) ((h.dep 10 rfl).az (N := 1048576) (md_len hu la1)) (by omega) (by omega)),
      fun s v h => does_val rfl (wanted_by (b := false) (want := false) rfl rfl (h.dep 6 rfl)) (x_load_z ((h.same 2 rfl).trans p241) ((h.far q240 b361.lt (by simp)).trans b361)) (f366.mono ((Mono.drew _).trans h.mono)),
      fun s v h => does_call rfl (wanted_by (b := false) (want := false) rfl rfl (h.dep 6 rfl)) (x_call1 Try.call15) (form_k (h.dep 12 rfl)),
      fun s v h => does_call rfl (wanted_by (b := false) (want := false) rfl rfl (h.dep 6 rfl)) (x_call2 Try.call12) (eq_k (h.dep 11 rfl) (h.dep 13 rfl) (fl_md a b).symm),
      fun s v h => does_val rfl (wanted_by (b := false) (want := false) rfl rfl (h.dep 6 rfl)) (x_not (h.dep 14 rfl)) rfl,
      fun s v h => does_val rfl rfl (x_pick (h.dep 6 rfl)) (h.dep 15 rfl),
      fun s v h => does_val rfl rfl (x_move) (h.dep 16 rfl),
      fun s v h => does_val rfl (wanted_by (b := false) (want := false) rfl rfl (h.dep 17 rfl)) (x_load_z ((h.same 6 rfl).trans p289) ((h.far q288 b364.lt (by simp)).trans b364)) (f375.mono ((Mono.drew _).trans h.mono)),
      fun s v h => does_call rfl (wanted_by (b := false) (want := false) rfl rfl (h.dep 17 rfl)) (x_call1 Try.call39) (sign_k ((h.dep 18 rfl).az (N := 1048576) (md_len hu la1))),
      fun s v h => does_val rfl (wanted_by (b := false) (want := false) rfl rfl (h.dep 17 rfl)) (x_neq_int (h.dep 19 rfl) rfl) (congrArg (fun x => Value.bool (!x)) d1),
      fun s v h => does_val rfl (wanted_by (b := false) (want := false) rfl rfl (h.dep 17 rfl)) (x_move) (h.dep 20 rfl),
      fun s v h => does_skip rfl (wanted_by (b := false) (want := true) rfl rfl (h.dep 21 rfl)) trivial,
      fun s v h => does_skip rfl (wanted_by (b := false) (want := true) rfl rfl (h.dep 21 rfl)) trivial,
      fun s v h => does_skip rfl (wanted_by (b := false) (want := true) rfl rfl (h.dep 21 rfl)) trivial,
      fun s v h => does_skip rfl (wanted_by (b := false) (want := true) rfl rfl (h.dep 21 rfl)) trivial,
      fun s v h => does_skip rfl (wanted_by (b := false) (want := true) rfl rfl (h.dep 21 rfl)) trivial,
      fun s v h => does_val rfl (wanted_by (b := false) (want := false) rfl rfl (h.dep 17 rfl)) (x_pick (h.dep 21 rfl)) rfl,
      fun s v h => does_val rfl rfl (x_pick (h.dep 17 rfl)) (h.dep 27 rfl),
      fun s v h => does_val rfl rfl (x_move) (h.dep 28 rfl),
      fun s v h => does_val rfl (wanted_by (b := false) (want := false) rfl rfl (h.dep 29 rfl)) (x_load_z ((h.same 6 rfl).trans p289) ((h.far q288 b364.lt (by simp)).trans b364)) (f375.mono ((Mono.drew _).trans h.mono)),
      fun s v h => does_call rfl (wanted_by (b := false) (want := false) rfl rfl (h.dep 29 rfl)) (x_call1 Try.call41) (abs_k ((h.dep 30 rfl).az (N := 1048576) (md_len hu la1))),
      fun s v h => does_val rfl (wanted_by (b := false) (want := false) rfl rfl (h.dep 29 rfl)) (x_load_z ((h.same 3 rfl).trans p247) ((h.far q246 b362.lt (by simp)).trans b362)) (f368.mono ((Mono.drew _).trans h.mono)),
      fun s v h => does_call rfl (wanted_by (b := false) (want := false) rfl rfl (h.dep 29 rfl)) (x_call1 Try.call41) (abs_k (h.dep 32 rfl)),
      fun s v h => does_call rfl (wanted_by (b := false) (want := false) rfl rfl (h.dep 29 rfl)) (x_call2 Try.call40) (zcmp_k ((h.dep 31 rfl).az (N := 1048576) (len_abs (md_len hu la1))) ((h.dep 33 rfl).az (N := 1048576) (len_abs la1))),
      fun s v h => does_val rfl (wanted_by (b := false) (want := false) rfl rfl (h.dep 29 rfl)) (x_geq (h.dep 34 rfl) rfl) (congrArg Value.bool d3),
      fun s v h => does_val rfl rfl (x_pick (h.dep 29 rfl)) (h.dep 35 rfl), trivial⟩
  intro g383 ts v383 hts E383
  simp only [fillL, Nat.reduceAdd, List.setIfInBounds_toArray, List.set_cons_zero, List.set_cons_succ] at hts
  subst hts
  have T384 : Below w.heap.size w v383 := (below_toDrew T355).trans E383.below
  have l385 : q240 < v354.heap.size := b361.lt
  have l386 : q246 < v354.heap.size := b362.lt
  have l387 : q281 < v354.heap.size := b363.lt
  have l388 : q288 < v354.heap.size := b364.lt
  have l389 : q337 < v354.heap.size := b365.lt
  have b390 : Bx v383 q240 24 #[.bool na0, .slice A0 n0 c0] := (E383.far q240 b361.lt (by simp)).trans b361
  have b391 : Bx v383 q246 24 #[.bool na1, .slice A1 n1 c1] := (E383.far q246 b362.lt (by simp)).trans b362
  have b392 : Bx v383 q281 t296 #[.bool x298, .slice A299 m300 c301] := (E383.far q281 b363.lt (by simp)).trans b363
  have b393 : Bx v383 q288 t304 #[.bool x306, .slice A307 m308 c309] := (E383.far q288 b364.lt (by simp)).trans b364
  have b394 : Bx v383 q337 t346 #[.bool x348, .slice A349 m350 c351] := (E383.far q337 b365.lt (by simp)).trans b365
  have f395 := f366.mono ((Mono.drew _).trans E383.mono)
  have f396 := f367.mono ((Mono.drew _).trans E383.mono)
  have f397 := f368.mono ((Mono.drew _).trans E383.mono)
  have f398 := f369.mono ((Mono.drew _).trans E383.mono)
  have f399 := f370.mono ((Mono.drew _).trans E383.mono)
  have f400 := f371.mono ((Mono.drew _).trans E383.mono)
  have f401 := f372.mono ((Mono.drew _).trans E383.mono)
  have f402 := f373.mono ((Mono.drew _).trans E383.mono)
  have f403 := f374.mono ((Mono.drew _).trans E383.mono)
  have f404 := f375.mono ((Mono.drew _).trans E383.mono)
  have f405 := f376.mono ((Mono.drew _).trans E383.mono)
  have f406 := f377.mono ((Mono.drew _).trans E383.mono)
  have f407 := f378.mono ((Mono.drew _).trans E383.mono)
  have f408 := f379.mono ((Mono.drew _).trans E383.mono)
  have f409 := f380.mono ((Mono.drew _).trans E383.mono)
  have e410 : g383 0 = (.int .i64 0) := E383.facts 0 (by decide)
  have e411 : g383 1 = (.bool false) := E383.facts 1 (by decide)
  have e412 : g383 2 = (.bool false) := E383.facts 2 (by decide)
  have e413 : g383 3 = (.int .i64 0) := E383.facts 3 (by decide)
  have e414 : g383 4 = (.bool false) := E383.facts 4 (by decide)
  have e415 : g383 5 = (.bool false) := E383.facts 5 (by decide)
  have e416 : g383 6 = (.bool false) := E383.facts 6 (by decide)
  have f417 : Cz v383 (g383 7) (fl a b) := E383.facts 7 (by decide)
  have f418 : Az 1048576 v383 (g383 8) b := E383.facts 8 (by decide)
  have f419 : Cz v383 (g383 9) ((fl a b) * b) := E383.facts 9 (by decide)
  have f420 : Cz v383 (g383 10) (md a b) := E383.facts 10 (by decide)
  have f421 : Cz v383 (g383 11) (((fl a b) * b) + (md a b)) := E383.facts 11 (by decide)
  have f422 : Az 1048576 v383 (g383 12) a := E383.facts 12 (by decide)
  have f423 : Cz v383 (g383 13) a := E383.facts 13 (by decide)
  have e424 : g383 14 = (.bool true) := E383.facts 14 (by decide)
  have e425 : g383 15 = (.bool false) := E383.facts 15 (by decide)
  have e426 : g383 16 = (.bool false) := E383.facts 16 (by decide)
  have e427 : g383 17 = (.bool false) := E383.facts 17 (by decide)
  have f428 : Cz v383 (g383 18) (md a b) := E383.facts 18 (by decide)
  have e429 : g383 19 = (.int .i64 (md a b).sign) := E383.facts 19 (by decide)
  have e430 : g383 20 = (.bool false) := E383.facts 20 (by decide)
  have e431 : g383 21 = (.bool false) := E383.facts 21 (by decide)
  have e432 : g383 27 = (.bool false) := E383.facts 27 (by decide)
  have e433 : g383 28 = (.bool false) := E383.facts 28 (by decide)
  have e434 : g383 29 = (.bool false) := E383.facts 29 (by decide)
  have f435 : Cz v383 (g383 30) (md a b) := E383.facts 30 (by decide)
  have f436 : Cz v383 (g383 31) ((md a b).natAbs : Int) := E383.facts 31 (by decide)
  have f437 : Az 1048576 v383 (g383 32) b := E383.facts 32 (by decide)
  have f438 : Cz v383 (g383 33) (b.natAbs : Int) := E383.facts 33 (by decide)
  have e439 : g383 34 = (.int .i64 (((md a b).natAbs : Int) - (b.natAbs : Int)).sign) := E383.facts 34 (by decide)
  have e440 : g383 35 = (.bool false) := E383.facts 35 (by decide)
  have e441 : g383 36 = (.bool false) := E383.facts 36 (by decide)
  refine then_normal ?_
  refine wp_cond_false e441 ?_
  refine wp_skip ?_
  refine then_normal ?_
  refine wp_seq ?_
  have HB : w.heap.size ≤ v383.heap.size := T384.size
  refine wp_plan_any [.val (.cz 2), .val (.cz (fl (a + a + b) (b + b))), .val (.az 1048576 b), .val (.cz ((fl (a + a + b) (b + b)) * b)), .val (.az 1048576 a), .val (.cz (((fl (a + a + b) (b + b)) * b) - a)), .val (.cz ((((fl (a + a + b) (b + b)) * b) - a).natAbs : Int)), .val (.cz (2 * ((((fl (a + a + b) (b + b)) * b) - a).natAbs : Int))), .new 2 none, .put 10 86] [] [] w.heap.size (by kernel_rfl) (by kernel_rfl) (by kernel_rfl) trivial HB ?_ ?_
  · exact ⟨fun s v h => does_call rfl rfl (x_call1 Try.call42) (of_k rfl (by decide) (by decide)),
      fun s v h => does_val rfl rfl (x_load_z ((h.same 8 rfl).trans p338) ((h.far q337 b394.lt (by simp)).trans b394)) (f408.mono ((Mono.drew _).trans h.mono)),
      fun s v h => does_val rfl rfl (x_load_z ((h.same 3 rfl).trans p247) ((h.far q246 b391.lt (by simp)).trans b391)) (f397.mono ((Mono.drew _).trans h.mono)),
      fun s v h => does_call rfl rfl (x_call2 Try.call16) (mul_k ((h.dep 1 rfl).az (N := 10000000) lN) (h.dep 2 rfl) (by omega) (by omega)),
      fun s v h => does_val rfl rfl (x_load_z ((h.same 2 rfl).trans p241) ((h.far q240 b390.lt (by simp)).trans b390)) (f395.mono ((Mono.drew _).trans h.mono)),
      fun s v h => does_call rfl rfl (x_call2 Try.call13) (sub_k ((h.dep 3 rfl).az (N := 11048576) (len_mul lN la1)) (h.dep 4 rfl) (by omega) (by omega)),
      fun s v h => does_call rfl rfl (x_call1 Try.call41) (abs_k ((h.dep 5 rfl).az (N := 11048577) (len_sub' (n := 11048577) (len_mul lN la1) la0 (by omega) (by omega)))),
      fun s v h => does_call rfl rfl (x_call2 Try.call16) (mul_k ((h.dep 0 rfl).az (N := 1) (show (digs (Int.natAbs 2)).length ≤ 1 from digs_len_le (by decide))) ((h.dep 6 rfl).az (N := 11048577) (len_abs (len_sub' (n := 11048577) (len_mul lN la1) la0 (by omega) (by omega)))) (by omega) (by omega)),
      fun s v h => does_new rfl rfl x_alloc_z (okz _ _ _ _) rfl (.inl rfl),
      fun s v h => by obtain ⟨q, e1, e2, e3⟩ := new_at (h.dep 8 rfl); exact does_put_z rfl rfl e1 (h.dep 7 rfl).shape e3 (Nat.le_trans HB e2), trivial⟩
  intro g442 ts v442 hts E442
  simp only [fillL, Nat.reduceAdd, List.setIfInBounds_toArray, List.set_cons_zero, List.set_cons_succ] at hts
  subst hts
  have T443 : Below w.heap.size w v442 := (below_toDrew T384).trans E442.below
  have l444 : q240 < v383.heap.size := b390.lt
  have l445 : q246 < v383.heap.size := b391.lt
  have l446 : q281 < v383.heap.size := b392.lt
  have l447 : q288 < v383.heap.size := b393.lt
  have l448 : q337 < v383.heap.size := b394.lt
  have b449 : Bx v442 q240 24 #[.bool na0, .slice A0 n0 c0] := (E442.far q240 b390.lt (by simp)).trans b390
  have b450 : Bx v442 q246 24 #[.bool na1, .slice A1 n1 c1] := (E442.far q246 b391.lt (by simp)).trans b391
  have b451 : Bx v442 q281 t296 #[.bool x298, .slice A299 m300 c301] := (E442.far q281 b392.lt (by simp)).trans b392
  have b452 : Bx v442 q288 t304 #[.bool x306, .slice A307 m308 c309] := (E442.far q288 b393.lt (by simp)).trans b393
  have b453 : Bx v442 q337 t346 #[.bool x348, .slice A349 m350 c351] := (E442.far q337 b394.lt (by simp)).trans b394
  have f454 := f395.mono ((Mono.drew _).trans E442.mono)
  have f455 := f396.mono ((Mono.drew _).trans E442.mono)
  have f456 := f397.mono ((Mono.drew _).trans E442.mono)
  have f457 := f398.mono ((Mono.drew _).trans E442.mono)
  have f458 := f399.mono ((Mono.drew _).trans E442.mono)
  have f459 := f400.mono ((Mono.drew _).trans E442.mono)
  have f460 := f401.mono ((Mono.drew _).trans E442.mono)
  have f461 := f402.mono ((Mono.drew _).trans E442.mono)
  have f462 := f403.mono ((Mono.drew _).trans E442.mono)
  have f463 := f404.mono ((Mono.drew _).trans E442.mono)
  have f464 := f405.mono ((Mono.drew _).trans E442.mono)
  have f465 := f406.mono ((Mono.drew _).trans E442.mono)
  have f466 := f407.mono ((Mono.drew _).trans E442.mono)
  have f467 := f408.mono ((Mono.drew _).trans E442.mono)
  have f468 := f409.mono ((Mono.drew _).trans E442.mono)
  have f469 := f417.mono ((Mono.drew _).trans E442.mono)
  have f470 := f418.mono ((Mono.drew _).trans E442.mono)
  have f471 := f419.mono ((Mono.drew _).trans E442.mono)
  have f472 := f420.mono ((Mono.drew _).trans E442.mono)
  have f473 := f421.mono ((Mono.drew _).trans E442.mono)
  have f474 := f422.mono ((Mono.drew _).trans E442.mono)
  have f475 := f423.mono ((Mono.drew _).trans E442.mono)
  have f476 := f428.mono ((Mono.drew _).trans E442.mono)
  have f477 := f435.mono ((Mono.drew _).trans E442.mono)
  have f478 := f436.mono ((Mono.drew _).trans E442.mono)
  have f479 := f437.mono ((Mono.drew _).trans E442.mono)
  have f480 := f438.mono ((Mono.drew _).trans E442.mono)
  have f481 : Cz v442 (g442 0) 2 := E442.facts 0 (by decide)
  have f482 : Cz v442 (g442 1) (fl (a + a + b) (b + b)) := E442.facts 1 (by decide)
  have f483 : Az 1048576 v442 (g442 2) b := E442.facts 2 (by decide)
  have f484 : Cz v442 (g442 3) ((fl (a + a + b) (b + b)) * b) := E442.facts 3 (by decide)
  have f485 : Az 1048576 v442 (g442 4) a := E442.facts 4 (by decide)
  have f486 : Cz v442 (g442 5) (((fl (a + a + b) (b + b)) * b) - a) := E442.facts 5 (by decide)
  have f487 : Cz v442 (g442 6) ((((fl (a + a + b) (b + b)) * b) - a).natAbs : Int) := E442.facts 6 (by decide)
  have f488 : Cz v442 (g442 7) (2 * ((((fl (a + a + b) (b + b)) * b) - a).natAbs : Int)) := E442.facts 7 (by decide)
  obtain ⟨q489, p490, l491, o492⟩ : ∃ q, g442 8 = .pointer (some ⟨q, 0, none⟩) ∧ v383.heap.size ≤ q ∧ OkB v442 q 2 := E442.facts 8 (by decide)
  have h493 : w.heap.size ≤ q489 := Nat.le_trans HB l491
  have n494 : q240 ≠ q489 := by omega
  have n495 : q246 ≠ q489 := by omega
  have n496 : q281 ≠ q489 := by omega
  have n497 : q288 ≠ q489 := by omega
  have n498 : q337 ≠ q489 := by omega
  obtain ⟨t499, x501, A502, m503, c504, e505, b500⟩ := put_info (E442.facts 9 (by decide)) p490 f488.shape
  have f506 : Cz v442 (.agg #[.bool x501, .slice A502 m503 c504]) (2 * ((((fl (a + a + b) (b + b)) * b) - a).natAbs : Int)) := f488.at e505.symm
  refine then_normal ?_
  refine wp_seq ?_
  refine wp_seq ?_
  have HB : w.heap.size ≤ v442.heap.size := T443.size
  refine wp_plan_any [.val (.cz (2 * ((((fl (a + a + b) (b + b)) * b) - a).natAbs : Int))), .val (.az 1048576 b), .val (.cz (b.natAbs : Int)), .val (.is (.int .i64 ((2 * ((((fl (a + a + b) (b + b)) * b) - a).natAbs : Int)) - (b.natAbs : Int)).sign)), .val (.is (.bool false))] [] [] w.heap.size (by kernel_rfl) (by kernel_rfl) (by kernel_rfl) trivial HB ?_ ?_
  · exact ⟨fun s v h => does_val rfl rfl (x_load_z ((h.same 10 rfl).trans p490) ((h.far q489 b500.lt (by simp)).trans b500)) (f506.mono ((Mono.drew _).trans h.mono)),
      fun s v h => does_val rfl rfl (x_load_z ((h.same 3 rfl).trans p247) ((h.far q246 b450.lt (by simp)).trans b450)) (f456.mono ((Mono.drew _).trans h.mono)),
      fun s v h => does_call rfl rfl (x_call1 Try.call41) (abs_k (h.dep 1 rfl)),
      fun s v h => does_call rfl rfl (x_call2 Try.call40) (zcmp_k ((h.dep 0 rfl).az (N := 11048578) (len_mul (show (digs (Int.natAbs 2)).length ≤ 1 from digs_len_le (by decide)) (len_abs (len_sub' (n := 11048577) (len_mul lN la1) la0 (by omega) (by omega))))) ((h.dep 2 rfl).az (N := 1048576) (len_abs la1))),
      fun s v h => does_val rfl rfl (x_gtr (h.dep 3 rfl) rfl) (congrArg Value.bool d4), trivial⟩
  intro g507 ts v507 hts E507
  simp only [fillL, Nat.reduceAdd, List.setIfInBounds_toArray, List.set_cons_zero, List.set_cons_succ] at hts
  subst hts
  have T508 : Below w.heap.size w v507 := (below_toDrew T443).trans E507.below
  have l509 : q240 < v442.heap.size := b449.lt
  have l510 : q246 < v442.heap.size := b450.lt
  have l511 : q281 < v442.heap.size := b451.lt
  have l512 : q288 < v442.heap.size := b452.lt
  have l513 : q337 < v442.heap.size := b453.lt
  have l514 : q489 < v442.heap.size := b500.lt
  have b515 : Bx v507 q240 24 #[.bool na0, .slice A0 n0 c0] := (E507.far q240 b449.lt (by simp)).trans b449
  have b516 : Bx v507 q246 24 #[.bool na1, .slice A1 n1 c1] := (E507.far q246 b450.lt (by simp)).trans b450
  have b517 : Bx v507 q281 t296 #[.bool x298, .slice A299 m300 c301] := (E507.far q281 b451.lt (by simp)).trans b451
  have b518 : Bx v507 q288 t304 #[.bool x306, .slice A307 m308 c309] := (E507.far q288 b452.lt (by simp)).trans b452
  have b519 : Bx v507 q337 t346 #[.bool x348, .slice A349 m350 c351] := (E507.far q337 b453.lt (by simp)).trans b453
  have b520 : Bx v507 q489 t499 #[.bool x501, .slice A502 m503 c504] := (E507.far q489 b500.lt (by simp)).trans b500
  have f521 := f454.mono ((Mono.drew _).trans E507.mono)
  have f522 := f455.mono ((Mono.drew _).trans E507.mono)
  have f523 := f456.mono ((Mono.drew _).trans E507.mono)
  have f524 := f457.mono ((Mono.drew _).trans E507.mono)
  have f525 := f458.mono ((Mono.drew _).trans E507.mono)
  have f526 := f459.mono ((Mono.drew _).trans E507.mono)
  have f527 := f460.mono ((Mono.drew _).trans E507.mono)
  have f528 := f461.mono ((Mono.drew _).trans E507.mono)
  have f529 := f462.mono ((Mono.drew _).trans E507.mono)
  have f530 := f463.mono ((Mono.drew _).trans E507.mono)
  have f531 := f464.mono ((Mono.drew _).trans E507.mono)
  have f532 := f465.mono ((Mono.drew _).trans E507.mono)
  have f533 := f466.mono ((Mono.drew _).trans E507.mono)
  have f534 := f467.mono ((Mono.drew _).trans E507.mono)
  have f535 := f468.mono ((Mono.drew _).trans E507.mono)
  have f536 := f469.mono ((Mono.drew _).trans E507.mono)
  have f537 := f470.mono ((Mono.drew _).trans E507.mono)
  have f538 := f471.mono ((Mono.drew _).trans E507.mono)
  have f539 := f472.mono ((Mono.drew _).trans E507.mono)
  have f540 := f473.mono ((Mono.drew _).trans E507.mono)
  have f541 := f474.mono ((Mono.drew _).trans E507.mono)
  have f542 := f475.mono ((Mono.drew _).trans E507.mono)
  have f543 := f476.mono ((Mono.drew _).trans E507.mono)
  have f544 := f477.mono ((Mono.drew _).trans E507.mono)
  have f545 := f478.mono ((Mono.drew _).trans E507.mono)
  have f546 := f479.mono ((Mono.drew _).trans E507.mono)
  have f547 := f480.mono ((Mono.drew _).trans E507.mono)
  have f548 := f481.mono ((Mono.drew _).trans E507.mono)
  have f549 := f482.mono ((Mono.drew _).trans E507.mono)
  have f550 := f483.mono ((Mono.drew _).trans E507.mono)
  have f551 := f484.mono ((Mono.drew _).trans E507.mono)
  have f552 := f485.mono ((Mono.drew _).trans E507.mono)
  have f553 := f486.mono ((Mono.drew _).trans E507.mono)
  have f554 := f487.mono ((Mono.drew _).trans E507.mono)
  have f555 := f488.mono ((Mono.drew _).trans E507.mono)
  have f556 := f506.mono ((Mono.drew _).trans E507.mono)
  have f557 : Cz v507 (g507 0) (2 * ((((fl (a + a + b) (b + b)) * b) - a).natAbs : Int)) := E507.facts 0 (by decide)
  have f558 : Az 1048576 v507 (g507 1) b := E507.facts 1 (by decide)
  have f559 : Cz v507 (g507 2) (b.natAbs : Int) := E507.facts 2 (by decide)
  have e560 : g507 3 = (.int .i64 ((2 * ((((fl (a + a + b) (b + b)) * b) - a).natAbs : Int)) - (b.natAbs : Int)).sign) := E507.facts 3 (by decide)
  have e561 : g507 4 = (.bool false) := E507.facts 4 (by decide)
  refine then_normal ?_
  refine wp_cond_false e561 ?_
  refine wp_skip ?_
  refine then_normal ?_
  refine wp_seq ?_
  have HB : w.heap.size ≤ v507.heap.size := T508.size
  refine wp_plan_seq [.val (.az 1048576 a), .val (.az 1048576 b), .val (.tup3 (.cz (Int.gcd a b : Int)) (.cz (bezX a b)) (.cz (fl ((Int.gcd a b : Int) - bezX a b * a) b))), .val (.tup3 (.cz (Int.gcd a b : Int)) (.cz (bezX a b)) (.cz (fl ((Int.gcd a b : Int) - bezX a b * a) b))), .val (.cz (Int.gcd a b : Int)), .val (.cz (bezX a b)), .val (.cz (fl ((Int.gcd a b : Int) - bezX a b * a) b)), .new 2 none, .new 2 none, .new 2 none, .put 11 96, .put 12 97, .put 13 98] [] [] w.heap.size (by kernel_rfl) (by kernel_rfl) trivial HB ?_ ?_
  · exact ⟨fun s v h => does_val rfl rfl (x_load_z ((h.same 2 rfl).trans p241) ((h.far q240 b515.lt (by simp)).trans b515)) (f521.mono h.mono),
      fun s v h => does_val rfl rfl (x_load_z ((h.same 3 rfl).trans p247) ((h.far q246 b516.lt (by simp)).trans b516)) (f523.mono h.mono),
      fun s v h => does_call rfl rfl (x_call2 Try.call33) (zbezout_n (h.dep 0 rfl) (h.dep 1 rfl) (by omega) hu d0),
      fun s v h => does_val rfl rfl (x_move) (h.dep 2 rfl),
      fun s v h => by obtain ⟨r0, r1, r2, e, f0, f1, f2⟩ := tup3_at (h.dep 3 rfl); exact does_val rfl rfl (x_ext e rfl) f0,
      fun s v h => by obtain ⟨r0, r1, r2, e, f0, f1, f2⟩ := tup3_at (h.dep 3 rfl); exact does_val rfl rfl (x_ext e rfl) f1,
      fun s v h => by obtain ⟨r0, r1, r2, e, f0, f1, f2⟩ := tup3_at (h.dep 3 rfl); exact does_val rfl rfl (x_ext e rfl) f2,
      fun s v h => does_new rfl rfl x_alloc_z (okz _ _ _ _) rfl (.inl rfl),
      fun s v h => does_new rfl rfl x_alloc_z (okz _ _ _ _) rfl (.inl rfl),
      fun s v h => does_new rfl rfl x_alloc_z (okz _ _ _ _) rfl (.inl rfl),
      fun s v h => by obtain ⟨q, e1, e2, e3⟩ := new_at (h.dep 7 rfl); exact does_put_z rfl rfl e1 (h.dep 4 rfl).shape e3 (Nat.le_trans HB e2),
      fun s v h => by obtain ⟨q, e1, e2, e3⟩ := new_at (h.dep 8 rfl); exact does_put_z rfl rfl e1 (h.dep 5 rfl).shape e3 (Nat.le_trans HB e2),
      fun s v h => by obtain ⟨q, e1, e2, e3⟩ := new_at (h.dep 9 rfl); exact does_put_z rfl rfl e1 (h.dep 6 rfl).shape e3 (Nat.le_trans HB e2), trivial⟩
  intro g562 ts v562 hts E562
  simp only [fillL, Nat.reduceAdd, List.setIfInBounds_toArray, List.set_cons_zero, List.set_cons_succ] at hts
  subst hts
  have T563 : Below w.heap.size w v562 := T508.trans E562.below
  have l564 : q240 < v507.heap.size := b515.lt
  have l565 : q246 < v507.heap.size := b516.lt
  have l566 : q281 < v507.heap.size := b517.lt
  have l567 : q288 < v507.heap.size := b518.lt
  have l568 : q337 < v507.heap.size := b519.lt
  have l569 : q489 < v507.heap.size := b520.lt
  have b570 : Bx v562 q240 24 #[.bool na0, .slice A0 n0 c0] := (E562.far q240 b515.lt (by simp)).trans b515
  have b571 : Bx v562 q246 24 #[.bool na1, .slice A1 n1 c1] := (E562.far q246 b516.lt (by simp)).trans b516
  have b572 : Bx v562 q281 t296 #[.bool x298, .slice A299 m300 c301] := (E562.far q281 b517.lt (by simp)).trans b517
  have b573 : Bx v562 q288 t304 #[.bool x306, .slice A307 m308 c309] := (E562.far q288 b518.lt (by simp)).trans b518
  have b574 : Bx v562 q337 t346 #[.bool x348, .slice A349 m350 c351] := (E562.far q337 b519.lt (by simp)).trans b519
  have b575 : Bx v562 q489 t499 #[.bool x501, .slice A502 m503 c504] := (E562.far q489 b520.lt (by simp)).trans b520
  have f576 := f521.mono E562.mono
  have f577 := f522.mono E562.mono
  have f578 := f523.mono E562.mono
  have f579 := f524.mono E562.mono
  have f580 := f525.mono E562.mono
  have f581 := f526.mono E562.mono
  have f582 := f527.mono E562.mono
  have f583 := f528.mono E562.mono
  have f584 := f529.mono E562.mono
  have f585 := f530.mono E562.mono
  have f586 := f531.mono E562.mono
  have f587 := f532.mono E562.mono
  have f588 := f533.mono E562.mono
  have f589 := f534.mono E562.mono
  have f590 := f535.mono E562.mono
  have f591 := f536.mono E562.mono
  have f592 := f537.mono E562.mono
  have f593 := f538.mono E562.mono
  have f594 := f539.mono E562.mono
  have f595 := f540.mono E562.mono
  have f596 := f541.mono E562.mono
  have f597 := f542.mono E562.mono
  have f598 := f543.mono E562.mono
  have f599 := f544.mono E562.mono
  have f600 := f545.mono E562.mono
  have f601 := f546.mono E562.mono
  have f602 := f547.mono E562.mono
  have f603 := f548.mono E562.mono
  have f604 := f549.mono E562.mono
  have f605 := f550.mono E562.mono
  have f606 := f551.mono E562.mono
  have f607 := f552.mono E562.mono
  have f608 := f553.mono E562.mono
  have f609 := f554.mono E562.mono
  have f610 := f555.mono E562.mono
  have f611 := f556.mono E562.mono
  have f612 := f557.mono E562.mono
  have f613 := f558.mono E562.mono
  have f614 := f559.mono E562.mono
  have f615 : Az 1048576 v562 (g562 0) a := E562.facts 0 (by decide)
  have f616 : Az 1048576 v562 (g562 1) b := E562.facts 1 (by decide)
  have f617 : Cz v562 (g562 4) (Int.gcd a b : Int) := E562.facts 4 (by decide)
  have f618 : Cz v562 (g562 5) (bezX a b) := E562.facts 5 (by decide)
  have f619 : Cz v562 (g562 6) (fl ((Int.gcd a b : Int) - bezX a b * a) b) := E562.facts 6 (by decide)
  obtain ⟨q620, p621, l622, o623⟩ : ∃ q, g562 7 = .pointer (some ⟨q, 0, none⟩) ∧ v507.heap.size ≤ q ∧ OkB v562 q 2 := E562.facts 7 (by decide)
  have h624 : w.heap.size ≤ q620 := Nat.le_trans HB l622
  have n625 : q240 ≠ q620 := by omega
  have n626 : q246 ≠ q620 := by omega
  have n627 : q281 ≠ q620 := by omega
  have n628 : q288 ≠ q620 := by omega
  have n629 : q337 ≠ q620 := by omega
  have n630 : q489 ≠ q620 := by omega
  obtain ⟨q631, p632, l633, o634⟩ : ∃ q, g562 8 = .pointer (some ⟨q, 0, none⟩) ∧ v507.heap.size ≤ q ∧ OkB v562 q 2 := E562.facts 8 (by decide)
  have h635 : w.heap.size ≤ q631 := Nat.le_trans HB l633
  have n636 : q240 ≠ q631 := by omega
  have n637 : q246 ≠ q631 := by omega
  have n638 : q281 ≠ q631 := by omega
  have n639 : q288 ≠ q631 := by omega
  have n640 : q337 ≠ q631 := by omega
  have n641 : q489 ≠ q631 := by omega
  have n642 : q620 ≠ q631 := apart_ne (E562.apart 7 8 (by decide) (by decide) (by decide) ⟨_, _, rfl⟩ ⟨_, _, rfl⟩) p621 p632
  obtain ⟨q643, p644, l645, o646⟩ : ∃ q, g562 9 = .pointer (some ⟨q, 0, none⟩) ∧ v507.heap.size ≤ q ∧ OkB v562 q 2 := E562.facts 9 (by decide)
  have h647 : w.heap.size ≤ q643 := Nat.le_trans HB l645
  have n648 : q240 ≠ q643 := by omega
  have n649 : q246 ≠ q643 := by omega
  have n650 : q281 ≠ q643 := by omega
  have n651 : q288 ≠ q643 := by omega
  have n652 : q337 ≠ q643 := by omega
  have n653 : q489 ≠ q643 := by omega
  have n654 : q620 ≠ q643 := apart_ne (E562.apart 7 9 (by decide) (by decide) (by decide) ⟨_, _, rfl⟩ ⟨_, _, rfl⟩) p621 p644
  have n655 : q631 ≠ q643 := apart_ne (E562.apart 8 9 (by decide) (by decide) (by decide) ⟨_, _, rfl⟩ ⟨_, _, rfl⟩) p632 p644
  obtain ⟨t656, x658, A659, m660, c661, e662, b657⟩ := put_info (E562.facts 10 (by decide)) p621 f617.shape
  have f663 : Cz v562 (.agg #[.bool x658, .slice A659 m660 c661]) (Int.gcd a b : Int) := f617.at e662.symm
  obtain ⟨t664, x666, A667, m668, c669, e670, b665⟩ := put_info (E562.facts 11 (by decide)) p632 f618.shape
  have f671 : Cz v562 (.agg #[.bool x666, .slice A667 m668 c669]) (bezX a b) := f618.at e670.symm
  obtain ⟨t672, x674, A675, m676, c677, e678, b673⟩ := put_info (E562.facts 12 (by decide)) p644 f619.shape
  have f679 : Cz v562 (.agg #[.bool x674, .slice A675 m676 c677]) (fl ((Int.gcd a b : Int) - bezX a b * a) b) := f619.at e678.symm
  refine then_normal ?_
  refine wp_seq ?_
  refine wp_seq ?_
  have HB : w.heap.size ≤ v562.heap.size := T563.size
  refine wp_plan_any [.val (.cz (bezX a b)), .val (.az 1048576 a), .val (.cz ((bezX a b) * a)), .val (.cz (fl ((Int.gcd a b : Int) - bezX a b * a) b)), .val (.az 1048576 b), .val (.cz ((fl ((Int.gcd a b : Int) - bezX a b * a) b) * b)), .val (.cz (((bezX a b) * a) + ((fl ((Int.gcd a b : Int) - bezX a b * a) b) * b))), .val (.cz (Int.gcd a b : Int)), .val (.is (.bool true)), .val (.is (.bool false)), .val (.is (.bool false)), .val (.cz (Int.gcd a b : Int)), .val (.is (.int .i64 (Int.gcd a b : Int).sign)), .val (.is (.bool false)), .val (.is (.bool false))] [] [] w.heap.size (by kernel_rfl) (by kernel_rfl) (by kernel_rfl) trivial HB ?_ ?_
  · exact ⟨fun s v h => does_val rfl rfl (x_load_z ((h.same 12 rfl).trans p632) ((h.far q631 b665.lt (by simp)).trans b665)) (f671.mono ((Mono.drew _).trans h.mono)),
      fun s v h => does_val rfl rfl (x_load_z ((h.same 2 rfl).trans p241) ((h.far q240 b570.lt (by simp)).trans b570)) (f576.mono ((Mono.drew _).trans h.mono)),
      fun s v h => does_call rfl rfl (x_call2 Try.call16) (mul_k ((h.dep 0 rfl).az (N := 1048576) lX) (h.dep 1 rfl) (by omega) (by omega)),
      fun s v h => does_val rfl rfl (x_load_z ((h.same 13 rfl).trans p644) ((h.far q643 b673.lt (by simp)).trans b673)) (f679.mono ((Mono.drew _).trans h.mono)),
      fun s v h => does_val rfl rfl (x_load_z ((h.same 3 rfl).trans p247) ((h.far q246 b571.lt (by simp)).trans b571)) (f578.mono ((Mono.drew _).trans h.mono)),
      fun s v h => does_call rfl rfl (x_call2 Try.call16) (mul_k ((h.dep 3 rfl).az (N := 10000000) lY) (h.dep 4 rfl) (by omega) (by omega)),
      fun s v h => does_call rfl rfl (x_call2 Try.call14) (add_k ((h.dep 2 rfl).az (N := 2097152) (len_mul lX la0)) ((h.dep 5 rfl).az (N := 11048576) (len_mul lY la1)) (by omega) (by omega)),
      fun s v h => does_val rfl rfl (x_load_z ((h.same 11 rfl).trans p621) ((h.far q620 b657.lt (by simp)).trans b657)) (f663.mono ((Mono.drew _).trans h.mono)),
      fun s v h => does_call rfl rfl (x_call2 Try.call12) (eq_k (h.dep 6 rfl) (h.dep 7 rfl) (bez_eq hu)),
      fun s v h => does_val rfl rfl (x_not (h.dep 8 rfl)) rfl,
      fun s v h => does_val rfl rfl (x_move) (h.dep 9 rfl),
      fun s v h => does_val rfl (wanted_by (b := false) (want := false) rfl rfl (h.dep 10 rfl)) (x_load_z ((h.same 11 rfl).trans p621) ((h.far q620 b657.lt (by simp)).trans b657)) (f663.mono ((Mono.drew _).trans h.mono)),
      fun s v h => does_call rfl (wanted_by (b := false) (want := false) rfl rfl (h.dep 10 rfl)) (x_call1 Try.call39) (sign_k ((h.dep 11 rfl).az (N := 1048576) (gcd_len hu la1))),
      fun s v h => does_val rfl (wanted_by (b := false) (want := false) rfl rfl (h.dep 10 rfl)) (x_leq (h.dep 12 rfl) rfl) (congrArg Value.bool d5),
      fun s v h => does_val rfl rfl (x_pick (h.dep 10 rfl)) (h.dep 13 rfl), trivial⟩
  intro g680 ts v680 hts E680
  simp only [fillL, Nat.reduceAdd, List.setIfInBounds_toArray, List.set_cons_zero, List.set_cons_succ] at hts
  subst hts
  have T681 : Below w.heap.size w v680 := (below_toDrew T563).trans E680.below
  have l682 : q240 < v562.heap.size := b570.lt
  have l683 : q246 < v562.heap.size := b571.lt
  have l684 : q281 < v562.heap.size := b572.lt
  have l685 : q288 < v562.heap.size := b573.lt
  have l686 : q337 < v562.heap.size := b574.lt
  have l687 : q489 < v562.heap.size := b575.lt
  have l688 : q620 < v562.heap.size := b657.lt
  have l689 : q631 < v562.heap.size := b665.lt
  have l690 : q643 < v562.heap.size := b673.lt
  have b691 : Bx v680 q240 24 #[.bool na0, .slice A0 n0 c0] := (E680.far q240 b570.lt (by simp)).trans b570
  have b692 : Bx v680 q246 24 #[.bool na1, .slice A1 n1 c1] := (E680.far q246 b571.lt (by simp)).trans b571
  have b693 : Bx v680 q281 t296 #[.bool x298, .slice A299 m300 c301] := (E680.far q281 b572.lt (by simp)).trans b572
  have b694 : Bx v680 q288 t304 #[.bool x306, .slice A307 m308 c309] := (E680.far q288 b573.lt (by simp)).trans b573
  have b695 : Bx v680 q337 t346 #[.bool x348, .slice A349 m350 c351] := (E680.far q337 b574.lt (by simp)).trans b574
  have b696 : Bx v680 q489 t499 #[.bool x501, .slice A502 m503 c504] := (E680.far q489 b575.lt (by simp)).trans b575
  have b697 : Bx v680 q620 t656 #[.bool x658, .slice A659 m660 c661] := (E680.far q620 b657.lt (by simp)).trans b657
  have b698 : Bx v680 q631 t664 #[.bool x666, .slice A667 m668 c669] := (E680.far q631 b665.lt (by simp)).trans b665
  have b699 : Bx v680 q643 t672 #[.bool x674, .slice A675 m676 c677] := (E680.far q643 b673.lt (by simp)).trans b673
  have f700 := f576.mono ((Mono.drew _).trans E680.mono)
  have f701 := f577.mono ((Mono.drew _).trans E680.mono)
  have f702 := f578.mono ((Mono.drew _).trans E680.mono)
  have f703 := f579.mono ((Mono.drew _).trans E680.mono)
  have f704 := f580.mono ((Mono.drew _).trans E680.mono)
  have f705 := f581.mono ((Mono.drew _).trans E680.mono)
  have f706 := f582.mono ((Mono.drew _).trans E680.mono)
  have f707 := f583.mono ((Mono.drew _).trans E680.mono)
  have f708 := f584.mono ((Mono.drew _).trans E680.mono)
  have f709 := f585.mono ((Mono.drew _).trans E680.mono)
  have f710 := f586.mono ((Mono.drew _).trans E680.mono)
  have f711 := f587.mono ((Mono.drew _).trans E680.mono)
  have f712 := f588.mono ((Mono.drew _).trans E680.mono)
  have f713 := f589.mono ((Mono.drew _).trans E680.mono)
  have f714 := f590.mono ((Mono.drew _).trans E680.mono)
  have f715 := f591.mono ((Mono.drew _).trans E680.mono)
  have f716 := f592.mono ((Mono.drew _).trans E680.mono)
  have f717 := f593.mono ((Mono.drew _).trans E680.mono)
  have f718 := f594.mono ((Mono.drew _).trans E680.mono)
  have f719 := f595.mono ((Mono.drew _).trans E680.mono)
  have f720 := f596.mono ((Mono.drew _).trans E680.mono)
  have f721 := f597.mono ((Mono.drew _).trans E680.mono)
  have f722 := f598.mono ((Mono.drew _).trans E680.mono)
  have f723 := f599.mono ((Mono.drew _).trans E680.mono)
  have f724 := f600.mono ((Mono.drew _).trans E680.mono)
  have f725 := f601.mono ((Mono.drew _).trans E680.mono)
  have f726 := f602.mono ((Mono.drew _).trans E680.mono)
  have f727 := f603.mono ((Mono.drew _).trans E680.mono)
  have f728 := f604.mono ((Mono.drew _).trans E680.mono)
  have f729 := f605.mono ((Mono.drew _).trans E680.mono)
  have f730 := f606.mono ((Mono.drew _).trans E680.mono)
  have f731 := f607.mono ((Mono.drew _).trans E680.mono)
  have f732 := f608.mono ((Mono.drew _).trans E680.mono)
  have f733 := f609.mono ((Mono.drew _).trans E680.mono)
  have f734 := f610.mono ((Mono.drew _).trans E680.mono)
  have f735 := f611.mono ((Mono.drew _).trans E680.mono)
  have f736 := f612.mono ((Mono.drew _).trans E680.mono)
  have f737 := f613.mono ((Mono.drew _).trans E680.mono)
  have f738 := f614.mono ((Mono.drew _).trans E680.mono)
  have f739 := f615.mono ((Mono.drew _).trans E680.mono)
  have f740 := f616.mono ((Mono.drew _).trans E680.mono)
  have f741 := f617.mono ((Mono.drew _).trans E680.mono)
  have f742 := f618.mono ((Mono.drew _).trans E680.mono)
  have f743 := f619.mono ((Mono.drew _).trans E680.mono)
  have f744 := f663.mono ((Mono.drew _).trans E680.mono)
  have f745 := f671.mono ((Mono.drew _).trans E680.mono)
  have f746 := f679.mono ((Mono.drew _).trans E680.mono)
  have f747 : Cz v680 (g680 0) (bezX a b) := E680.facts 0 (by decide)
  have f748 : Az 1048576 v680 (g680 1) a := E680.facts 1 (by decide)
  have f749 : Cz v680 (g680 2) ((bezX a b) * a) := E680.facts 2 (by decide)
  have f750 : Cz v680 (g680 3) (fl ((Int.gcd a b : Int) - bezX a b * a) b) := E680.facts 3 (by decide)
  have f751 : Az 1048576 v680 (g680 4) b := E680.facts 4 (by decide)
  have f752 : Cz v680 (g680 5) ((fl ((Int.gcd a b : Int) - bezX a b * a) b) * b) := E680.facts 5 (by decide)
  have f753 : Cz v680 (g680 6) (((bezX a b) * a) + ((fl ((Int.gcd a b : Int) - bezX a b * a) b) * b)) := E680.facts 6 (by decide)
  have f754 : Cz v680 (g680 7) (Int.gcd a b : Int) := E680.facts 7 (by decide)
  have e755 : g680 8 = (.bool true) := E680.facts 8 (by decide)
  have e756 : g680 9 = (.bool false) := E680.facts 9 (by decide)
  have e757 : g680 10 = (.bool false) := E680.facts 10 (by decide)
  have f758 : Cz v680 (g680 11) (Int.gcd a b : Int) := E680.facts 11 (by decide)
  have e759 : g680 12 = (.int .i64 (Int.gcd a b : Int).sign) := E680.facts 12 (by decide)
  have e760 : g680 13 = (.bool false) := E680.facts 13 (by decide)
  have e761 : g680 14 = (.bool false) := E680.facts 14 (by decide)
  refine then_normal ?_
  refine wp_cond_false e761 ?_
  refine wp_skip ?_
  refine then_normal ?_
  refine wp_seq ?_
  have HB : w.heap.size ≤ v680.heap.size := T681.size
  refine wp_plan_seq [.val (.az 1048576 a), .val (.cz (Int.gcd a b : Int)), .val (.tup2 (.cz (fl a (Int.gcd a b : Int))) (.is (.int .i64 0))), .val (.tup2 (.cz (fl a (Int.gcd a b : Int))) (.is (.int .i64 0))), .val (.cz (fl a (Int.gcd a b : Int))), .val (.is (.int .i64 0)), .new 2 none, .put 14 118, .val (.is (.int .i64 0))] [] [] w.heap.size (by kernel_rfl) (by kernel_rfl) trivial HB ?_ ?_
  · exact ⟨fun s v h => does_val rfl rfl (x_load_z ((h.same 2 rfl).trans p241) ((h.far q240 b691.lt (by simp)).trans b691)) (f700.mono h.mono),
      fun s v h => does_val rfl rfl (x_load_z ((h.same 11 rfl).trans p621) ((h.far q620 b697.lt (by simp)).trans b697)) (f744.mono h.mono),
      fun s v h => does_call rfl rfl (x_call2 Try.call26) (zexact_a (h.dep 0 rfl) ((h.dep 1 rfl).az (N := 1048576) (gcd_len hu la1)) (by omega) (by omega) (by have := gcd_pos (a := a) hu; omega) (by rw [md_gcd_l hu]; rfl)),
      fun s v h => does_val rfl rfl (x_move) (h.dep 2 rfl),
      fun s v h => by obtain ⟨r0, r1, e, f0, f1⟩ := tup2_at (h.dep 3 rfl); exact does_val rfl rfl (x_ext e rfl) f0,
      fun s v h => by obtain ⟨r0, r1, e, f0, f1⟩ := tup2_at (h.dep 3 rfl); exact does_val rfl rfl (x_ext e rfl) f1,
      fun s v h => does_new rfl rfl x_alloc_z (okz _ _ _ _) rfl (.inl rfl),
      fun s v h => by obtain ⟨q, e1, e2, e3⟩ := new_at (h.dep 6 rfl); exact does_put_z rfl rfl e1 (h.dep 4 rfl).shape e3 (Nat.le_trans HB e2),
      fun s v h => does_val rfl rfl (x_assign) (h.dep 5 rfl), trivial⟩
  intro g762 ts v762 hts E762
  simp only [fillL, Nat.reduceAdd, List.setIfInBounds_toArray, List.set_cons_zero, List.set_cons_succ] at hts
  subst hts
  have T763 : Below w.heap.size w v762 := T681.trans E762.below
  have l764 : q240 < v680.heap.size := b691.lt
  have l765 : q246 < v680.heap.size := b692.lt
  have l766 : q281 < v680.heap.size := b693.lt
  have l767 : q288 < v680.heap.size := b694.lt
  have l768 : q337 < v680.heap.size := b695.lt
  have l769 : q489 < v680.heap.size := b696.lt
  have l770 : q620 < v680.heap.size := b697.lt
  have l771 : q631 < v680.heap.size := b698.lt
  have l772 : q643 < v680.heap.size := b699.lt
  have b773 : Bx v762 q240 24 #[.bool na0, .slice A0 n0 c0] := (E762.far q240 b691.lt (by simp)).trans b691
  have b774 : Bx v762 q246 24 #[.bool na1, .slice A1 n1 c1] := (E762.far q246 b692.lt (by simp)).trans b692
  have b775 : Bx v762 q281 t296 #[.bool x298, .slice A299 m300 c301] := (E762.far q281 b693.lt (by simp)).trans b693
  have b776 : Bx v762 q288 t304 #[.bool x306, .slice A307 m308 c309] := (E762.far q288 b694.lt (by simp)).trans b694
  have b777 : Bx v762 q337 t346 #[.bool x348, .slice A349 m350 c351] := (E762.far q337 b695.lt (by simp)).trans b695
  have b778 : Bx v762 q489 t499 #[.bool x501, .slice A502 m503 c504] := (E762.far q489 b696.lt (by simp)).trans b696
  have b779 : Bx v762 q620 t656 #[.bool x658, .slice A659 m660 c661] := (E762.far q620 b697.lt (by simp)).trans b697
  have b780 : Bx v762 q631 t664 #[.bool x666, .slice A667 m668 c669] := (E762.far q631 b698.lt (by simp)).trans b698
  have b781 : Bx v762 q643 t672 #[.bool x674, .slice A675 m676 c677] := (E762.far q643 b699.lt (by simp)).trans b699
  have f782 := f700.mono E762.mono
  have f783 := f701.mono E762.mono
  have f784 := f702.mono E762.mono
  have f785 := f703.mono E762.mono
  have f786 := f704.mono E762.mono
  have f787 := f705.mono E762.mono
  have f788 := f706.mono E762.mono
  have f789 := f707.mono E762.mono
  have f790 := f708.mono E762.mono
  have f791 := f709.mono E762.mono
  have f792 := f710.mono E762.mono
  have f793 := f711.mono E762.mono
  have f794 := f712.mono E762.mono
  have f795 := f713.mono E762.mono
  have f796 := f714.mono E762.mono
  have f797 := f715.mono E762.mono
  have f798 := f716.mono E762.mono
  have f799 := f717.mono E762.mono
  have f800 := f718.mono E762.mono
  have f801 := f719.mono E762.mono
  have f802 := f720.mono E762.mono
  have f803 := f721.mono E762.mono
  have f804 := f722.mono E762.mono
  have f805 := f723.mono E762.mono
  have f806 := f724.mono E762.mono
  have f807 := f725.mono E762.mono
  have f808 := f726.mono E762.mono
  have f809 := f727.mono E762.mono
  have f810 := f728.mono E762.mono
  have f811 := f729.mono E762.mono
  have f812 := f730.mono E762.mono
  have f813 := f731.mono E762.mono
  have f814 := f732.mono E762.mono
  have f815 := f733.mono E762.mono
  have f816 := f734.mono E762.mono
  have f817 := f735.mono E762.mono
  have f818 := f736.mono E762.mono
  have f819 := f737.mono E762.mono
  have f820 := f738.mono E762.mono
  have f821 := f739.mono E762.mono
  have f822 := f740.mono E762.mono
  have f823 := f741.mono E762.mono
  have f824 := f742.mono E762.mono
  have f825 := f743.mono E762.mono
  have f826 := f744.mono E762.mono
  have f827 := f745.mono E762.mono
  have f828 := f746.mono E762.mono
  have f829 := f747.mono E762.mono
  have f830 := f748.mono E762.mono
  have f831 := f749.mono E762.mono
  have f832 := f750.mono E762.mono
  have f833 := f751.mono E762.mono
  have f834 := f752.mono E762.mono
  have f835 := f753.mono E762.mono
  have f836 := f754.mono E762.mono
  have f837 := f758.mono E762.mono
  have f838 : Az 1048576 v762 (g762 0) a := E762.facts 0 (by decide)
  have f839 : Cz v762 (g762 1) (Int.gcd a b : Int) := E762.facts 1 (by decide)
  have f840 : Cz v762 (g762 4) (fl a (Int.gcd a b : Int)) := E762.facts 4 (by decide)
  have e841 : g762 5 = (.int .i64 0) := E762.facts 5 (by decide)
  have e842 : g762 8 = (.int .i64 0) := E762.facts 8 (by decide)
  obtain ⟨q843, p844, l845, o846⟩ : ∃ q, g762 6 = .pointer (some ⟨q, 0, none⟩) ∧ v680.heap.size ≤ q ∧ OkB v762 q 2 := E762.facts 6 (by decide)
  have h847 : w.heap.size ≤ q843 := Nat.le_trans HB l845
  have n848 : q240 ≠ q843 := by omega
  have n849 : q246 ≠ q843 := by omega
  have n850 : q281 ≠ q843 := by omega
  have n851 : q288 ≠ q843 := by omega
  have n852 : q337 ≠ q843 := by omega
  have n853 : q489 ≠ q843 := by omega
  have n854 : q620 ≠ q843 := by omega
  have n855 : q631 ≠ q843 := by omega
  have n856 : q643 ≠ q843 := by omega
  obtain ⟨t857, x859, A860, m861, c862, e863, b858⟩ := put_info (E762.facts 7 (by decide)) p844 f840.shape
  have f864 : Cz v762 (.agg #[.bool x859, .slice A860 m861 c862]) (fl a (Int.gcd a b : Int)) := f840.at e863.symm
  refine then_normal ?_
  refine wp_seq ?_
  have HB : w.heap.size ≤ v762.heap.size := T763.size
  refine wp_plan_seq [.val (.az 1048576 b), .val (.cz (Int.gcd a b : Int)), .val (.tup2 (.cz (fl b (Int.gcd a b : Int))) (.is (.int .i64 0))), .val (.tup2 (.cz (fl b (Int.gcd a b : Int))) (.is (.int .i64 0))), .val (.cz (fl b (Int.gcd a b : Int))), .val (.is (.int .i64 0)), .new 2 none, .put 16 124, .val (.is (.int .i64 0))] [] [] w.heap.size (by kernel_rfl) (by kernel_rfl) trivial HB ?_ ?_
  · exact ⟨fun s v h => does_val rfl rfl (x_load_z ((h.same 3 rfl).trans p247) ((h.far q246 b774.lt (by simp)).trans b774)) (f784.mono h.mono),
      fun s v h => does_val rfl rfl (x_load_z ((h.same 11 rfl).trans p621) ((h.far q620 b779.lt (by simp)).trans b779)) (f826.mono h.mono),
      fun s v h => does_call rfl rfl (x_call2 Try.call26) (zexact_a (h.dep 0 rfl) ((h.dep 1 rfl).az (N := 1048576) (gcd_len hu la1)) (by omega) (by omega) (by have := gcd_pos (a := a) hu; omega) (by rw [md_gcd_r hu]; rfl)),
      fun s v h => does_val rfl rfl (x_move) (h.dep 2 rfl),
      fun s v h => by obtain ⟨r0, r1, e, f0, f1⟩ := tup2_at (h.dep 3 rfl); exact does_val rfl rfl (x_ext e rfl) f0,
      fun s v h => by obtain ⟨r0, r1, e, f0, f1⟩ := tup2_at (h.dep 3 rfl); exact does_val rfl rfl (x_ext e rfl) f1,
      fun s v h => does_new rfl rfl x_alloc_z (okz _ _ _ _) rfl (.inl rfl),
      fun s v h => by obtain ⟨q, e1, e2, e3⟩ := new_at (h.dep 6 rfl); exact does_put_z rfl rfl e1 (h.dep 4 rfl).shape e3 (Nat.le_trans HB e2),
      fun s v h => does_val rfl rfl (x_assign) (h.dep 5 rfl), trivial⟩
  intro g865 ts v865 hts E865
  simp only [fillL, Nat.reduceAdd, List.setIfInBounds_toArray, List.set_cons_zero, List.set_cons_succ] at hts
  subst hts
  have T866 : Below w.heap.size w v865 := T763.trans E865.below
  have l867 : q240 < v762.heap.size := b773.lt
  have l868 : q246 < v762.heap.size := b774.lt
  have l869 : q281 < v762.heap.size := b775.lt
  have l870 : q288 < v762.heap.size := b776.lt
  have l871 : q337 < v762.heap.size := b777.lt
  have l872 : q489 < v762.heap.size := b778.lt
  have l873 : q620 < v762.heap.size := b779.lt
  have l874 : q631 < v762.heap.size := b780.lt
  have l875 : q643 < v762.heap.size := b781.lt
  have l876 : q843 < v762.heap.size := b858.lt
  have b877 : Bx v865 q240 24 #[.bool na0, .slice A0 n0 c0] := (E865.far q240 b773.lt (by simp)).trans b773
  have b878 : Bx v865 q246 24 #[.bool na1, .slice A1 n1 c1] := (E865.far q246 b774.lt (by simp)).trans b774
  have b879 : Bx v865 q281 t296 #[.bool x298, .slice A299 m300 c301] := (E865.far q281 b775.lt (by simp)).trans b775
  have b880 : Bx v865 q288 t304 #[.bool x306, .slice A307 m308 c309] := (E865.far q288 b776.lt (by simp)).trans b776
  have b881 : Bx v865 q337 t346 #[.bool x348, .slice A349 m350 c351] := (E865.far q337 b777.lt (by simp)).trans b777
  have b882 : Bx v865 q489 t499 #[.bool x501, .slice A502 m503 c504] := (E865.far q489 b778.lt (by simp)).trans b778
  have b883 : Bx v865 q620 t656 #[.bool x658, .slice A659 m660 c661] := (E865.far q620 b779.lt (by simp)).trans b779
  have b884 : Bx v865 q631 t664 #[.bool x666, .slice A667 m668 c669] := (E865.far q631 b780.lt (by simp)).trans b780
  have b885 : Bx v865 q643 t672 #[.bool x674, .slice A675 m676 c677] := (E865.far q643 b781.lt (by simp)).trans b781
  have b886 : Bx v865 q843 t857 #[.bool x859, .slice A860 m861 c862] := (E865.far q843 b858.lt (by simp)).trans b858
  have f887 := f782.mono E865.mono
  have f888 := f783.mono E865.mono
  have f889 := f784.mono E865.mono
  have f890 := f785.mono E865.mono
  have f891 := f786.mono E865.mono
  have f892 := f787.mono E865.mono
  have f893 := f788.mono E865.mono
  have f894 := f789.mono E865.mono
  have f895 := f790.mono E865.mono
  have f896 := f791.mono E865.mono
  have f897 := f792.mono E865.mono
  have f898 := f793.mono E865.mono
  have f899 := f794.mono E865.mono
  have f900 := f795.mono E865.mono
  have f901 := f796.mono E865.mono
  have f902 := f797.mono E865.mono
  have f903 := f798.mono E865.mono
  have f904 := f799.mono E865.mono
  have f905 := f800.mono E865.mono
  have f906 := f801.mono E865.mono
  have f907 := f802.mono E865.mono
  have f908 := f803.mono E865.mono
  have f909 := f804.mono E865.mono
  have f910 := f805.mono E865.mono
  have f911 := f806.mono E865.mono
  have f912 := f807.mono E865.mono
  have f913 := f808.mono E865.mono
  have f914 := f809.mono E865.mono
  have f915 := f810.mono E865.mono
  have f916 := f811.mono E865.mono
  have f917 := f812.mono E865.mono
  have f918 := f813.mono E865.mono
  have f919 := f814.mono E865.mono
  have f920 := f815.mono E865.mono
  have f921 := f816.mono E865.mono
  have f922 := f817.mono E865.mono
  have f923 := f818.mono E865.mono
  have f924 := f819.mono E865.mono
  have f925 := f820.mono E865.mono
  have f926 := f821.mono E865.mono
  have f927 := f822.mono E865.mono
  have f928 := f823.mono E865.mono
  have f929 := f824.mono E865.mono
  have f930 := f825.mono E865.mono
  have f931 := f826.mono E865.mono
  have f932 := f827.mono E865.mono
  have f933 := f828.mono E865.mono
  have f934 := f829.mono E865.mono
  have f935 := f830.mono E865.mono
  have f936 := f831.mono E865.mono
  have f937 := f832.mono E865.mono
  have f938 := f833.mono E865.mono
  have f939 := f834.mono E865.mono
  have f940 := f835.mono E865.mono
  have f941 := f836.mono E865.mono
  have f942 := f837.mono E865.mono
  have f943 := f838.mono E865.mono
  have f944 := f839.mono E865.mono
  have f945 := f840.mono E865.mono
  have f946 := f864.mono E865.mono
  have f947 : Az 1048576 v865 (g865 0) b := E865.facts 0 (by decide)
  have f948 : Cz v865 (g865 1) (Int.gcd a b : Int) := E865.facts 1 (by decide)
  have f949 : Cz v865 (g865 4) (fl b (Int.gcd a b : Int)) := E865.facts 4 (by decide)
  have e950 : g865 5 = (.int .i64 0) := E865.facts 5 (by decide)
  have e951 : g865 8 = (.int .i64 0) := E865.facts 8 (by decide)
  obtain ⟨q952, p953, l954, o955⟩ : ∃ q, g865 6 = .pointer (some ⟨q, 0, none⟩) ∧ v762.heap.size ≤ q ∧ OkB v865 q 2 := E865.facts 6 (by decide)
  have h956 : w.heap.size ≤ q952 := Nat.le_trans HB l954
  have n957 : q240 ≠ q952 := by omega
  have n958 : q246 ≠ q952 := by omega
  have n959 : q281 ≠ q952 := by omega
  have n960 : q288 ≠ q952 := by omega
  have n961 : q337 ≠ q952 := by omega
  have n962 : q489 ≠ q952 := by omega
  have n963 : q620 ≠ q952 := by omega
  have n964 : q631 ≠ q952 := by omega
  have n965 : q643 ≠ q952 := by omega
  have n966 : q843 ≠ q952 := by omega
  obtain ⟨t967, x969, A970, m971, c972, e973, b968⟩ := put_info (E865.facts 7 (by decide)) p953 f949.shape
  have f974 : Cz v865 (.agg #[.bool x969, .slice A970 m971 c972]) (fl b (Int.gcd a b : Int)) := f949.at e973.symm
  refine then_normal ?_
  refine wp_seq ?_
  have HB : w.heap.size ≤ v865.heap.size := T866.size
  refine wp_plan_any [.val (.is (.int .i64 0)), .val (.is (.bool true)), .val (.is (.bool true)), .val (.is (.int .i64 0)), .val (.is (.bool true)), .val (.is (.bool true)), .val (.is (.bool true)), .val (.cz (bezX a b)), .val (.is (.int .i64 (bezX a b).sign)), .val (.is (.bool true)), .val (.is (.bool true)), .val (.is (.bool true)), .val (.cz (bezX a b)), .val (.cz (Int.gcd a b : Int)), .val (.cz ((bezX a b) * (Int.gcd a b : Int))), .val (.az 1048576 b), .val (.cz (b.natAbs : Int)), .val (.is (.int .i64 (((bezX a b) * (Int.gcd a b : Int)) - (b.natAbs : Int)).sign)), .val (.is (.bool true)), .val (.is (.bool true)), .val (.is (.bool true))] [] [] w.heap.size (by kernel_rfl) (by kernel_rfl) (by kernel_rfl) trivial HB ?_ ?_
  · exact ⟨fun s v h => does_val rfl rfl (x_move) ((h.same 15 rfl).trans e842),
      fun s v h => does_val rfl rfl (x_eql_err (h.dep 0 rfl) rfl) rfl,
      fun s v h => does_val rfl rfl (x_move) (h.dep 1 rfl),
      fun s v h => does_val rfl (wanted_by (b := true) (want := true) rfl rfl (h.dep 2 rfl)) (x_move) ((h.same 17 rfl).trans e951),
      fun s v h => does_val rfl (wanted_by (b := true) (want := true) rfl rfl (h.dep 2 rfl)) (x_eql_err (h.dep 3 rfl) rfl) rfl,
      fun s v h => does_val rfl rfl (x_pick (h.dep 2 rfl)) (h.dep 4 rfl),
      fun s v h => does_val rfl rfl (x_move) (h.dep 5 rfl),
      fun s v h => does_val rfl (wanted_by (b := true) (want := true) rfl rfl (h.dep 6 rfl)) (x_load_z ((h.same 12 rfl).trans p632) ((h.far q631 b884.lt (by simp)).trans b884)) (f932.mono ((Mono.drew _).trans h.mono)),
      fun s v h => does_call rfl (wanted_by (b := true) (want := true) rfl rfl (h.dep 6 rfl)) (x_call1 Try.call39) (sign_k ((h.dep 7 rfl).az (N := 1048576) lX)),
      fun s v h => does_val rfl (wanted_by (b := true) (want := true) rfl rfl (h.dep 6 rfl)) (x_geq (h.dep 8 rfl) rfl) (congrArg Value.bool d6),
      fun s v h => does_val rfl rfl (x_pick (h.dep 6 rfl)) (h.dep 9 rfl),
      fun s v h => does_val rfl rfl (x_move) (h.dep 10 rfl),
      fun s v h => does_val rfl (wanted_by (b := true) (want := true) rfl rfl (h.dep 11 rfl)) (x_load_z ((h.same 12 rfl).trans p632) ((h.far q631 b884.lt (by simp)).trans b884)) (f932.mono ((Mono.drew _).trans h.mono)),
      fun s v h => does_val rfl (wanted_by (b := true) (want := true) rfl rfl (h.dep 11 rfl)) (x_load_z ((h.same 11 rfl).trans p621) ((h.far q620 b883.lt (by simp)).trans b883)) (f931.mono ((Mono.drew _).trans h.mono)),
      fun s v h => does_call rfl (wanted_by (b := true) (want := true) rfl rfl (h.dep 11 rfl)) (x_call2 Try.call16) (mul_k ((h.dep 12 rfl).az (N := 1048576) lX) ((h.dep 13 rfl).az (N := 1048576) (gcd_len hu la1)) (by omega) (by omega)),
      fun s v h => does_val rfl (wanted_by (b := true) (want := true) rfl rfl (h.dep 11 rfl)) (x_load_z ((h.same 3 rfl).trans p247) ((h.far q246 b878.lt (by simp)).trans b878)) (f889.mono ((Mono.drew _).trans h.mono)),
      fun s v h => does_call rfl (wanted_by (b := true) (want := true) rfl rfl (h.dep 11 rfl)) (x_call1 Try.call41) (abs_k (h.dep 15 rfl)),
      fun s v h => does_call rfl (wanted_by (b := true) (want := true) rfl rfl (h.dep 11 rfl)) (x_call2 Try.call40) (zcmp_k ((h.dep 14 rfl).az (N := 2097152) (len_mul lX (gcd_len hu la1))) ((h.dep 16 rfl).az (N := 1048576) (len_abs la1))),
      fun s v h => does_val rfl (wanted_by (b := true) (want := true) rfl rfl (h.dep 11 rfl)) (x_lss (h.dep 17 rfl) rfl) (congrArg Value.bool d7),
      fun s v h => does_val rfl rfl (x_pick (h.dep 11 rfl)) (h.dep 18 rfl),
      fun s v h => does_val rfl rfl (x_assign) (h.dep 19 rfl), trivial⟩
  intro g975 ts v975 hts E975
  simp only [fillL, Nat.reduceAdd, List.setIfInBounds_toArray, List.set_cons_zero, List.set_cons_succ] at hts
  subst hts
  have T976 : Below w.heap.size w v975 := (below_toDrew T866).trans E975.below
  have l977 : q240 < v865.heap.size := b877.lt
  have l978 : q246 < v865.heap.size := b878.lt
  have l979 : q281 < v865.heap.size := b879.lt
  have l980 : q288 < v865.heap.size := b880.lt
  have l981 : q337 < v865.heap.size := b881.lt
  have l982 : q489 < v865.heap.size := b882.lt
  have l983 : q620 < v865.heap.size := b883.lt
  have l984 : q631 < v865.heap.size := b884.lt
  have l985 : q643 < v865.heap.size := b885.lt
  have l986 : q843 < v865.heap.size := b886.lt
  have l987 : q952 < v865.heap.size := b968.lt
  have b988 : Bx v975 q240 24 #[.bool na0, .slice A0 n0 c0] := (E975.far q240 b877.lt (by simp)).trans b877
  have b989 : Bx v975 q246 24 #[.bool na1, .slice A1 n1 c1] := (E975.far q246 b878.lt (by simp)).trans b878
  have b990 : Bx v975 q281 t296 #[.bool x298, .slice A299 m300 c301] := (E975.far q281 b879.lt (by simp)).trans b879
  have b991 : Bx v975 q288 t304 #[.bool x306, .slice A307 m308 c309] := (E975.far q288 b880.lt (by simp)).trans b880
  have b992 : Bx v975 q337 t346 #[.bool x348, .slice A349 m350 c351] := (E975.far q337 b881.lt (by simp)).trans b881
  have b993 : Bx v975 q489 t499 #[.bool x501, .slice A502 m503 c504] := (E975.far q489 b882.lt (by simp)).trans b882
  have b994 : Bx v975 q620 t656 #[.bool x658, .slice A659 m660 c661] := (E975.far q620 b883.lt (by simp)).trans b883
  have b995 : Bx v975 q631 t664 #[.bool x666, .slice A667 m668 c669] := (E975.far q631 b884.lt (by simp)).trans b884
  have b996 : Bx v975 q643 t672 #[.bool x674, .slice A675 m676 c677] := (E975.far q643 b885.lt (by simp)).trans b885
  have b997 : Bx v975 q843 t857 #[.bool x859, .slice A860 m861 c862] := (E975.far q843 b886.lt (by simp)).trans b886
  have b998 : Bx v975 q952 t967 #[.bool x969, .slice A970 m971 c972] := (E975.far q952 b968.lt (by simp)).trans b968
  have f999 := f887.mono ((Mono.drew _).trans E975.mono)
  have f1000 := f888.mono ((Mono.drew _).trans E975.mono)
  have f1001 := f889.mono ((Mono.drew _).trans E975.mono)
  have f1002 := f890.mono ((Mono.drew _).trans E975.mono)
  have f1003 := f891.mono ((Mono.drew _).trans E975.mono)
  have f1004 := f892.mono ((Mono.drew _).trans E975.mono)
  have f1005 := f893.mono ((Mono.drew _).trans E975.mono)
  have f1006 := f894.mono ((Mono.drew _).trans E975.mono)
  have f1007 := f895.mono ((Mono.drew _).trans E975.mono)
  have f1008 := f896.mono ((Mono.drew _).trans E975.mono)
  have f1009 := f897.mono ((Mono.drew _).trans E975.mono)
  have f1010 := f898.mono ((Mono.drew _).trans E975.mono)
  have f1011 := f899.mono ((Mono.drew _).trans E975.mono)
  have f1012 := f900.mono ((Mono.drew _).trans E975.mono)
  have f1013 := f901.mono ((Mono.drew _).trans E975.mono)
  have f1014 := f902.mono ((Mono.drew _).trans E975.mono)
  have f1015 := f903.mono ((Mono.drew _).trans E975.mono)
  have f1016 := f904.mono ((Mono.drew _).trans E975.mono)
  have f1017 := f905.mono ((Mono.drew _).trans E975.mono)
  have f1018 := f906.mono ((Mono.drew _).trans E975.mono)
  have f1019 := f907.mono ((Mono.drew _).trans E975.mono)
  have f1020 := f908.mono ((Mono.drew _).trans E975.mono)
  have f1021 := f909.mono ((Mono.drew _).trans E975.mono)
  have f1022 := f910.mono ((Mono.drew _).trans E975.mono)
  have f1023 := f911.mono ((Mono.drew _).trans E975.mono)
  have f1024 := f912.mono ((Mono.drew _).trans E975.mono)
  have f1025 := f913.mono ((Mono.drew _).trans E975.mono)
  have f1026 := f914.mono ((Mono.drew _).trans E975.mono)
  have f1027 := f915.mono ((Mono.drew _).trans E975.mono)
  have f1028 := f916.mono ((Mono.drew _).trans E975.mono)
  have f1029 := f917.mono ((Mono.drew _).trans E975.mono)
  have f1030 := f918.mono ((Mono.drew _).trans E975.mono)
  have f1031 := f919.mono ((Mono.drew _).trans E975.mono)
  have f1032 := f920.mono ((Mono.drew _).trans E975.mono)
  have f1033 := f921.mono ((Mono.drew _).trans E975.mono)
  have f1034 := f922.mono ((Mono.drew _).trans E975.mono)
  have f1035 := f923.mono ((Mono.drew _).trans E975.mono)
  have f1036 := f924.mono ((Mono.drew _).trans E975.mono)
  have f1037 := f925.mono ((Mono.drew _).trans E975.mono)
  have f1038 := f926.mono ((Mono.drew _).trans E975.mono)
  have f1039 := f927.mono ((Mono.drew _).trans E975.mono)
  have f1040 := f928.mono ((Mono.drew _).trans E975.mono)
  have f1041 := f929.mono ((Mono.drew _).trans E975.mono)
  have f1042 := f930.mono ((Mono.drew _).trans E975.mono)
  have f1043 := f931.mono ((Mono.drew _).trans E975.mono)
  have f1044 := f932.mono ((Mono.drew _).trans E975.mono)
  have f1045 := f933.mono ((Mono.drew _).trans E975.mono)
  have f1046 := f934.mono ((Mono.drew _).trans E975.mono)
  have f1047 := f935.mono ((Mono.drew _).trans E975.mono)
  have f1048 := f936.mono ((Mono.drew _).trans E975.mono)
  have f1049 := f937.mono ((Mono.drew _).trans E975.mono)
  have f1050 := f938.mono ((Mono.drew _).trans E975.mono)
  have f1051 := f939.mono ((Mono.drew _).trans E975.mono)
  have f1052 := f940.mono ((Mono.drew _).trans E975.mono)
  have f1053 := f941.mono ((Mono.drew _).trans E975.mono)
  have f1054 := f942.mono ((Mono.drew _).trans E975.mono)
  have f1055 := f943.mono ((Mono.drew _).trans E975.mono)
  have f1056 := f944.mono ((Mono.drew _).trans E975.mono)
  have f1057 := f945.mono ((Mono.drew _).trans E975.mono)
  have f1058 := f946.mono ((Mono.drew _).trans E975.mono)
  have f1059 := f947.mono ((Mono.drew _).trans E975.mono)
  have f1060 := f948.mono ((Mono.drew _).trans E975.mono)
  have f1061 := f949.mono ((Mono.drew _).trans E975.mono)
  have f1062 := f974.mono ((Mono.drew _).trans E975.mono)
  have e1063 : g975 0 = (.int .i64 0) := E975.facts 0 (by decide)
  have e1064 : g975 1 = (.bool true) := E975.facts 1 (by decide)
  have e1065 : g975 2 = (.bool true) := E975.facts 2 (by decide)
  have e1066 : g975 3 = (.int .i64 0) := E975.facts 3 (by decide)
  have e1067 : g975 4 = (.bool true) := E975.facts 4 (by decide)
  have e1068 : g975 5 = (.bool true) := E975.facts 5 (by decide)
  have e1069 : g975 6 = (.bool true) := E975.facts 6 (by decide)
  have f1070 : Cz v975 (g975 7) (bezX a b) := E975.facts 7 (by decide)
  have e1071 : g975 8 = (.int .i64 (bezX a b).sign) := E975.facts 8 (by decide)
  have e1072 : g975 9 = (.bool true) := E975.facts 9 (by decide)
  have e1073 : g975 10 = (.bool true) := E975.facts 10 (by decide)
  have e1074 : g975 11 = (.bool true) := E975.facts 11 (by decide)
  have f1075 : Cz v975 (g975 12) (bezX a b) := E975.facts 12 (by decide)
  have f1076 : Cz v975 (g975 13) (Int.gcd a b : Int) := E975.facts 13 (by decide)
  have f1077 : Cz v975 (g975 14) ((bezX a b) * (Int.gcd a b : Int)) := E975.facts 14 (by decide)
  have f1078 : Az 1048576 v975 (g975 15) b := E975.facts 15 (by decide)
  have f1079 : Cz v975 (g975 16) (b.natAbs : Int) := E975.facts 16 (by decide)
  have e1080 : g975 17 = (.int .i64 (((bezX a b) * (Int.gcd a b : Int)) - (b.natAbs : Int)).sign) := E975.facts 17 (by decide)
  have e1081 : g975 18 = (.bool true) := E975.facts 18 (by decide)
  have e1082 : g975 19 = (.bool true) := E975.facts 19 (by decide)
  have e1083 : g975 20 = (.bool true) := E975.facts 20 (by decide)
  refine then_normal ?_
  refine wp_ret ?_
  exact bodyPost_ret (results_tmp (t := 4) rfl _ _ _) rfl ⟨_, rfl, e1083, T976⟩

set_option maxHeartbeats 4000000 in
set_option maxRecDepth 8000 in
theorem zr_b {w : World} {x0 : Value} {a : Int} (h0 : Az 1048576 w x0 a) {y0 : Value} {b : Int} (h1 : Az 1048576 w y0 b) (hu : b ≠ 0) (d0 : (b.sign == 0) = false) (d1 : ((md a b).sign == 0) = false) (d2 : ((md a b).sign == b.sign) = true) (d3 : decide (0 ≤ (((md a b).natAbs : Int) - (b.natAbs : Int)).sign) = false) (d4 : decide (0 < (2 * ((fl (a + a + b) (b + b) * b - a).natAbs : Int) - (b.natAbs : Int)).sign) = false) (d5 : decide ((Int.gcd a b : Int).sign ≤ 0) = false) (d6 : decide (0 ≤ (bezX a b).sign) = true) (d7 : decide ((bezX a b * (Int.gcd a b : Int) - (b.natAbs : Int)).sign < 0) = true)  : Calls Try.prog 8 #[x0, y0] w (Ret (.is (.bool true)) w) := by
  have la0 := h0.len
  obtain ⟨na0, A0, n0, c0, M0, rfl, hm0, hz0⟩ := h0.parts
  have la1 := h1.len
  obtain ⟨na1, A1, n1, c1, M1, rfl, hm1, hz1⟩ := h1.parts
  have lX : (digs (bezX a b).natAbs).length ≤ 1048576 := bez_lenX hu la1
  have lY : (digs (fl ((Int.gcd a b : Int) - bezX a b * a) b).natAbs).length ≤ 10000000 := bez_lenY hu la0 la1
  have lN : (digs (fl (a + a + b) (b + b)).natAbs).length ≤ 10000000 := near_len la0 la1
  have T0 : Below w.heap.size w w := Below.refl _ _
  go_enter Try.func8, Try.ntmps8
  refine wp_seq ?_
  have HB : w.heap.size ≤ w.heap.size := T0.size
  refine wp_plan_seq [.new 2 (some (24, #[.bool na0, .slice A0 n0 c0])), .new 2 (some (24, #[.bool na1, .slice A1 n1 c1])), .val (.is (.bool false))] [] [] w.heap.size (by kernel_rfl) (by kernel_rfl) trivial HB ?_ ?_
  · exact ⟨fun s v h => does_new rfl rfl (x_box_z (h.same 0 rfl)) (okz _ _ _ _) rfl (.inr rfl),
      fun s v h => does_new rfl rfl (x_box_z (h.same 1 rfl)) (okz _ _ _ _) rfl (.inr rfl),
      fun s v h => does_val rfl rfl (x_assign) rfl, trivial⟩
  intro g1084 ts v1084 hts E1084
  simp only [fillL, Nat.reduceAdd, List.setIfInBounds_toArray, List.set_cons_zero, List.set_cons_succ] at hts
  subst hts
  have T1085 : Below w.heap.size w v1084 := T0.trans E1084.below
  have f1086 := h0.mono E1084.mono
  have f1087 := hm0.mono E1084.mono
  have f1088 := h1.mono E1084.mono
  have f1089 := hm1.mono E1084.mono
  have e1090 : g1084 2 = (.bool false) := E1084.facts 2 (by decide)
  obtain ⟨q1091, p1092, l1093, o1094, b1095⟩ : ∃ q, g1084 0 = .pointer (some ⟨q, 0, none⟩) ∧ w.heap.size ≤ q ∧ OkB v1084 q 2 ∧ Bx v1084 q 24 #[.bool na0, .slice A0 n0 c0] := E1084.facts 0 (by decide)
  have h1096 : w.heap.size ≤ q1091 := Nat.le_trans HB l1093
  obtain ⟨q1097, p1098, l1099, o1100, b1101⟩ : ∃ q, g1084 1 = .pointer (some ⟨q, 0, none⟩) ∧ w.heap.size ≤ q ∧ OkB v1084 q 2 ∧ Bx v1084 q 24 #[.bool na1, .slice A1 n1 c1] := E1084.facts 1 (by decide)
  have h1102 : w.heap.size ≤ q1097 := Nat.le_trans HB l1099
  have n1103 : q1091 ≠ q1097 := apart_ne (E1084.apart 0 1 (by decide) (by decide) (by decide) ⟨_, _, rfl⟩ ⟨_, _, rfl⟩) p1092 p1098
  refine then_normal ?_
  refine wp_seq ?_
  refine wp_seq ?_
  have HB : w.heap.size ≤ v1084.heap.size := T1085.size
  refine wp_plan_seq [.val (.is (.bool true)), .val (.is (.bool false))] [] [] w.heap.size (by kernel_rfl) (by kernel_rfl) trivial HB ?_ ?_
  · exact ⟨fun s v h => does_call rfl rfl (x_call0 Try.call11) (alive_k),
      fun s v h => does_val rfl rfl (x_not (h.dep 0 rfl)) rfl, trivial⟩
  intro g1104 ts v1104 hts E1104
  simp only [fillL, Nat.reduceAdd, List.setIfInBounds_toArray, List.set_cons_zero, List.set_cons_succ] at hts
  subst hts
  have T1105 : Below w.heap.size w v1104 := T1085.trans E1104.below
  have l1106 : q1091 < v1084.heap.size := b1095.lt
  have l1107 : q1097 < v1084.heap.size := b1101.lt
  have b1108 : Bx v1104 q1091 24 #[.bool na0, .slice A0 n0 c0] := (E1104.far q1091 b1095.lt (by simp)).trans b1095
  have b1109 : Bx v1104 q1097 24 #[.bool na1, .slice A1 n1 c1] := (E1104.far q1097 b1101.lt (by simp)).trans b1101
  have f1110 := f1086.mono E1104.mono
  have f1111 := f1087.mono E1104.mono
  have f1112 := f1088.mono E1104.mono
  have f1113 := f1089.mono E1104.mono
  have e1114 : g1104 0 = (.bool true) := E1104.facts 0 (by decide)
  have e1115 : g1104 1 = (.bool false) := E1104.facts 1 (by decide)
  refine then_normal ?_
  refine wp_cond_false e1115 ?_
  refine wp_skip ?_
  refine then_normal ?_
  refine wp_seq ?_
  have HB : w.heap.size ≤ v1104.heap.size := T1105.size
  refine wp_plan_seq [.val (.az 1048576 a), .val (.az 1048576 b), .val (.tup3 (.cz (fl a b)) (.cz (md a b)) (.is (.int .i64 0))), .val (.tup3 (.cz (fl a b)) (.cz (md a b)) (.is (.int .i64 0))), .val (.cz (fl a b)), .val (.cz (md a b)), .val (.is (.int .i64 0)), .new 2 none, .new 2 none, .put 5 24, .put 6 25, .val (.is (.int .i64 0))] [] [] w.heap.size (by kernel_rfl) (by kernel_rfl) trivial HB ?_ ?_
  · exact ⟨fun s v h => does_val rfl rfl (x_load_z ((h.same 2 rfl).trans p1092) ((h.far q1091 b1108.lt (by simp)).trans b1108)) (f1110.mono h.mono),
      fun s v h => does_val rfl rfl (x_load_z ((h.same 3 rfl).trans p1098) ((h.far q1097 b1109.lt (by simp)).trans b1109)) (f1112.mono h.mono),
      fun s v h => does_call rfl rfl (x_call2 Try.call24) (zfloor_k (h.dep 0 rfl) (h.dep 1 rfl) (by omega) (by omega) hu),
      fun s v h => does_val rfl rfl (x_move) (h.dep 2 rfl),
      fun s v h => by obtain ⟨r0, r1, r2, e, f0, f1, f2⟩ := tup3_at (h.dep 3 rfl); exact does_val rfl rfl (x_ext e rfl) f0,
      fun s v h => by obtain ⟨r0, r1, r2, e, f0, f1, f2⟩ := tup3_at (h.dep 3 rfl); exact does_val rfl rfl (x_ext e rfl) f1,
      fun s v h => by obtain ⟨r0, r1, r2, e, f0, f1, f2⟩ := tup3_at (h.dep 3 rfl); exact does_val rfl rfl (x_ext e rfl) f2,
      fun s v h => does_new rfl rfl x_alloc_z (okz _ _ _ _) rfl (.inl rfl),
      fun s v h => does_new rfl rfl x_alloc_z (okz _ _ _ _) rfl (.inl rfl),
      fun s v h => by obtain ⟨q, e1, e2, e3⟩ := new_at (h.dep 7 rfl); exact does_put_z rfl rfl e1 (h.dep 4 rfl).shape e3 (Nat.le_trans HB e2),
      fun s v h => by obtain ⟨q, e1, e2, e3⟩ := new_at (h.dep 8 rfl); exact does_put_z rfl rfl e1 (h.dep 5 rfl).shape e3 (Nat.le_trans HB e2),
      fun s v h => does_val rfl rfl (x_assign) (h.dep 6 rfl), trivial⟩
  intro g1116 ts v1116 hts E1116
  simp only [fillL, Nat.reduceAdd, List.setIfInBounds_toArray, List.set_cons_zero, List.set_cons_succ] at hts
  subst hts
  have T1117 : Below w.heap.size w v1116 := T1105.trans E1116.below
  have l1118 : q1091 < v1104.heap.size := b1108.lt
  have l1119 : q1097 < v1104.heap.size := b1109.lt
  have b1120 : Bx v1116 q1091 24 #[.bool na0, .slice A0 n0 c0] := (E1116.far q1091 b1108.lt (by simp)).trans b1108
  have b1121 : Bx v1116 q1097 24 #[.bool na1, .slice A1 n1 c1] := (E1116.far q1097 b1109.lt (by simp)).trans b1109
  have f1122 := f1110.mono E1116.mono
  have f1123 := f1111.mono E1116.mono
  have f1124 := f1112.mono E1116.mono
  have f1125 := f1113.mono E1116.mono
  have f1126 : Az 1048576 v1116 (g1116 0) a := E1116.facts 0 (by decide)
  have f1127 : Az 1048576 v1116 (g1116 1) b := E1116.facts 1 (by decide)
  have f1128 : Cz v1116 (g1116 4) (fl a b) := E1116.facts 4 (by decide)
  have f1129 : Cz v1116 (g1116 5) (md a b) := E1116.facts 5 (by decide)
  have e1130 : g1116 6 = (.int .i64 0) := E1116.facts 6 (by decide)
  have e1131 : g1116 11 = (.int .i64 0) := E1116.facts 11 (by decide)
  obtain ⟨q1132, p1133, l1134, o1135⟩ : ∃ q, g1116 7 = .pointer (some ⟨q, 0, none⟩) ∧ v1104.heap.size ≤ q ∧ OkB v1116 q 2 := E1116.facts 7 (by decide)
  have h1136 : w.heap.size ≤ q1132 := Nat.le_trans HB l1134
  have n1137 : q1091 ≠ q1132 := by omega
  have n1138 : q1097 ≠ q1132 := by omega
  obtain ⟨q1139, p1140, l1141, o1142⟩ : ∃ q, g1116 8 = .pointer (some ⟨q, 0, none⟩) ∧ v1104.heap.size ≤ q ∧ OkB v1116 q 2 := E1116.facts 8 (by decide)
  have h1143 : w.heap.size ≤ q1139 := Nat.le_trans HB l1141
  have n1144 : q1091 ≠ q1139 := by omega
  have n1145 : q1097 ≠ q1139 := by omega
  have n1146 : q1132 ≠ q1139 := apart_ne (E1116.apart 7 8 (by decide) (by decide) (by decide) ⟨_, _, rfl⟩ ⟨_, _, rfl⟩) p1133 p1140
  obtain ⟨t1147, x1149, A1150, m1151, c1152, e1153, b1148⟩ := put_info (E1116.facts 9 (by decide)) p1133 f1128.shape
  have f1154 : Cz v1116 (.agg #[.bool x1149, .slice A1150 m1151 c1152]) (fl a b) := f1128.at e1153.symm
  obtain ⟨t1155, x1157, A1158, m1159, c1160, e1161, b1156⟩ := put_info (E1116.facts 10 (by decide)) p1140 f1129.shape
  have f1162 : Cz v1116 (.agg #[.bool x1157, .slice A1158 m1159 c1160]) (md a b) := f1129.at e1161.symm
  refine then_normal ?_
  refine wp_seq ?_
  have HB : w.heap.size ≤ v1116.heap.size := T1117.size
  refine wp_plan_seq [.val (.az 1048576 a), .val (.az 1048576 b), .val (.tup2 (.cz (fl (a + a + b) (b + b))) (.is (.int .i64 0))), .val (.tup2 (.cz (fl (a + a + b) (b + b))) (.is (.int .i64 0))), .val (.cz (fl (a + a + b) (b + b))), .val (.is (.int .i64 0)), .new 2 none, .put 8 31, .val (.is (.int .i64 0))] [] [] w.heap.size (by kernel_rfl) (by kernel_rfl) trivial HB ?_ ?_
  · exact ⟨fun s v h => does_val rfl rfl (x_load_z ((h.same 2 rfl).trans p1092) ((h.far q1091 b1120.lt (by simp)).trans b1120)) (f1122.mono h.mono),
      fun s v h => does_val rfl rfl (x_load_z ((h.same 3 rfl).trans p1098) ((h.far q1097 b1121.lt (by simp)).trans b1121)) (f1124.mono h.mono),
      fun s v h => does_call rfl rfl (x_call2 Try.call25) (znear_k (h.dep 0 rfl) (h.dep 1 rfl) (by omega) (by omega) (by omega)),
      fun s v h => does_val rfl rfl (x_move) (h.dep 2 rfl),
      fun s v h => by obtain ⟨r0, r1, e, f0, f1⟩ := tup2_at (h.dep 3 rfl); exact does_val rfl rfl (x_ext e rfl) f0,
      fun s v h => by obtain ⟨r0, r1, e, f0, f1⟩ := tup2_at (h.dep 3 rfl); exact does_val rfl rfl (x_ext e rfl) f1,
      fun s v h => does_new rfl rfl x_alloc_z (okz _ _ _ _) rfl (.inl rfl),
      fun s v h => by obtain ⟨q, e1, e2, e3⟩ := new_at (h.dep 6 rfl); exact does_put_z rfl rfl e1 (h.dep 4 rfl).shape e3 (Nat.le_trans HB e2),
      fun s v h => does_val rfl rfl (x_assign) (h.dep 5 rfl), trivial⟩
  intro g1163 ts v1163 hts E1163
  simp only [fillL, Nat.reduceAdd, List.setIfInBounds_toArray, List.set_cons_zero, List.set_cons_succ] at hts
  subst hts
  have T1164 : Below w.heap.size w v1163 := T1117.trans E1163.below
  have l1165 : q1091 < v1116.heap.size := b1120.lt
  have l1166 : q1097 < v1116.heap.size := b1121.lt
  have l1167 : q1132 < v1116.heap.size := b1148.lt
  have l1168 : q1139 < v1116.heap.size := b1156.lt
  have b1169 : Bx v1163 q1091 24 #[.bool na0, .slice A0 n0 c0] := (E1163.far q1091 b1120.lt (by simp)).trans b1120
  have b1170 : Bx v1163 q1097 24 #[.bool na1, .slice A1 n1 c1] := (E1163.far q1097 b1121.lt (by simp)).trans b1121
  have b1171 : Bx v1163 q1132 t1147 #[.bool x1149, .slice A1150 m1151 c1152] := (E1163.far q1132 b1148.lt (by simp)).trans b1148
  have b1172 : Bx v1163 q1139 t1155 #[.bool x1157, .slice A1158 m1159 c1160] := (E1163.far q1139 b1156.lt (by simp)).trans b1156
  have f1173 := f1122.mono E1163.mono
  have f1174 := f1123.mono E1163.mono
  have f1175 := f1124.mono E1163.mono
  have f1176 := f1125.mono E1163.mono
  have f1177 := f1126.mono E1163.mono
  have f1178 := f1127.mono E1163.mono
  have f1179 := f1128.mono E1163.mono
  have f1180 := f1129.mono E1163.mono
  have f1181 := f1154.mono E1163.mono
  have f1182 := f1162.mono E1163.mono
  have f1183 : Az 1048576 v1163 (g1163 0) a := E1163.facts 0 (by decide)
  have f1184 : Az 1048576 v1163 (g1163 1) b := E1163.facts 1 (by decide)
  have f1185 : Cz v1163 (g1163 4) (fl (a + a + b) (b + b)) := E1163.facts 4 (by decide)
  have e1186 : g1163 5 = (.int .i64 0) := E1163.facts 5 (by decide)
  have e1187 : g1163 8 = (.int .i64 0) := E1163.facts 8 (by decide)
  obtain ⟨q1188, p1189, l1190, o1191⟩ : ∃ q, g1163 6 = .pointer (some ⟨q, 0, none⟩) ∧ v1116.heap.size ≤ q ∧ OkB v1163 q 2 := E1163.facts 6 (by decide)
  have h1192 : w.heap.size ≤ q1188 := Nat.le_trans HB l1190
  have n1193 : q1091 ≠ q1188 := by omega
  have n1194 : q1097 ≠ q1188 := by omega
  have n1195 : q1132 ≠ q1188 := by omega
  have n1196 : q1139 ≠ q1188 := by omega
  obtain ⟨t1197, x1199, A1200, m1201, c1202, e1203, b1198⟩ := put_info (E1163.facts 7 (by decide)) p1189 f1185.shape
  have f1204 : Cz v1163 (.agg #[.bool x1199, .slice A1200 m1201 c1202]) (fl (a + a + b) (b + b)) := f1185.at e1203.symm
  refine then_normal ?_
  refine wp_seq ?_
  refine wp_seq ?_
  have HB : w.heap.size ≤ v1163.heap.size := T1164.size
  refine wp_plan_seq [.val (.az 1048576 b), .val (.is (.int .i64 b.sign)), .val (.is (.bool false))] [] [] w.heap.size (by kernel_rfl) (by kernel_rfl) trivial HB ?_ ?_
  · exact ⟨fun s v h => does_val rfl rfl (x_load_z ((h.same 3 rfl).trans p1098) ((h.far q1097 b1170.lt (by simp)).trans b1170)) (f1175.mono h.mono),
      fun s v h => does_call rfl rfl (x_call1 Try.call39) (sign_k (h.dep 0 rfl)),
      fun s v h => does_val rfl rfl (x_eql_int (h.dep 1 rfl) rfl) (congrArg Value.bool d0), trivial⟩
  intro g1205 ts v1205 hts E1205
  simp only [fillL, Nat.reduceAdd, List.setIfInBounds_toArray, List.set_cons_zero, List.set_cons_succ] at hts
  subst hts
  have T1206 : Below w.heap.size w v1205 := T1164.trans E1205.below
  have l1207 : q1091 < v1163.heap.size := b1169.lt
  have l1208 : q1097 < v1163.heap.size := b1170.lt
  have l1209 : q1132 < v1163.heap.size := b1171.lt
  have l1210 : q1139 < v1163.heap.size := b1172.lt
  have l1211 : q1188 < v1163.heap.size := b1198.lt
  have b1212 : Bx v1205 q1091 24 #[.bool na0, .slice A0 n0 c0] := (E1205.far q1091 b1169.lt (by simp)).trans b1169
  have b1213 : Bx v1205 q1097 24 #[.bool na1, .slice A1 n1 c1] := (E1205.far q1097 b1170.lt (by simp)).trans b1170
  have b1214 : Bx v1205 q1132 t1147 #[.bool x1149, .slice A1150 m1151 c1152] := (E1205.far q1132 b1171.lt (by simp)).trans b1171
  have b1215 : Bx v1205 q1139 t1155 #[.bool x1157, .slice A1158 m1159 c1160] := (E1205.far q1139 b1172.lt (by simp)).trans b1172
  have b1216 : Bx v1205 q1188 t1197 #[.bool x1199, .slice A1200 m1201 c1202] := (E1205.far q1188 b1198.lt (by simp)).trans b1198
  have f1217 := f1173.mono E1205.mono
  have f1218 := f1174.mono E1205.mono
  have f1219 := f1175.mono E1205.mono
  have f1220 := f1176.mono E1205.mono
  have f1221 := f1177.mono E1205.mono
  have f1222 := f1178.mono E1205.mono
  have f1223 := f1179.mono E1205.mono
  have f1224 := f1180.mono E1205.mono
  have f1225 := f1181.mono E1205.mono
  have f1226 := f1182.mono E1205.mono
  have f1227 := f1183.mono E1205.mono
  have f1228 := f1184.mono E1205.mono
  have f1229 := f1185.mono E1205.mono
  have f1230 := f1204.mono E1205.mono
  have f1231 : Az 1048576 v1205 (g1205 0) b := E1205.facts 0 (by decide)
  have e1232 : g1205 1 = (.int .i64 b.sign) := E1205.facts 1 (by decide)
  have e1233 : g1205 2 = (.bool false) := E1205.facts 2 (by decide)
  refine then_normal ?_
  refine wp_cond_false e1233 ?_
  refine wp_skip ?_
  refine then_normal ?_
  refine wp_seq ?_
  refine wp_seq ?_
  have HB : w.heap.size ≤ v1205.heap.size := T1206.size
  refine wp_plan_any [.val (.is (.int .i64 0)), .val (.is (.bool false)), .val (.is (.bool false)), .val (.is (.int .i64 0)), .val (.is (.bool false)), .val (.is (.bool false)), .val (.is (.bool false)), .val (.cz (fl a b)), .val (.az 1048576 b), .val (.cz ((fl a b) * b)), .val (.cz (md a b)), .val (.cz (((fl a b) * b) + (md a b))), .val (.az 1048576 a), .val (.cz a), .val (.is (.bool true)), .val (.is (.bool false)), .val (.is (.bool false)), .val (.is (.bool false)), .val (.cz (md a b)), .val (.is (.int .i64 (md a b).sign)), .val (.is (.bool true)), .val (.is (.bool true)), .val (.cz (md a b)), .val (.is (.int .i64 (md a b).sign)), .val (.az 1048576 b), .val (.is (.int .i64 b.sign)), .val (.is (.bool false)), .val (.is (.bool false)), .val (.is (.bool false)), .val (.is (.bool false)), .val (.cz (md a b)), .val (.cz ((md a b).natAbs : Int)), .val (.az 1048576 b), .val (.cz (b.natAbs : Int)), .val (.is (.int .i64 (((md a b).natAbs : Int) - (b.natAbs : Int)).sign)), .val (.is (.bool false)), .val (.is (.bool false))] [] [] w.heap.size (by kernel_rfl) (by kernel_rfl) (by kernel_rfl) trivial HB ?_ ?_
  · exact ⟨fun s v h => does_val rfl rfl (x_move) ((h.same 7 rfl).trans e1131),
      fun s v h => does_val rfl rfl (x_neq_err (h.dep 0 rfl) rfl) rfl,
      fun s v h => does_val rfl rfl (x_move) (h.dep 1 rfl),
      fun s v h => does_val rfl (wanted_by (b := false) (want := false) rfl rfl (h.dep 2 rfl)) (x_move) ((h.same 9 rfl).trans e1187),
      fun s v h => does_val rfl (wanted_by (b := false) (want := false) rfl rfl (h.dep 2 rfl)) (x_neq_err (h.dep 3 rfl) rfl) rfl,
      fun s v h => does_val rfl rfl (x_pick (h.dep 2 rfl)) (h.dep 4 rfl),
      fun s v h => does_val rfl rfl (x_move) (h.dep 5 rfl),
      fun s v h => does_val rfl (wanted_by (b := false) (want := false) rfl rfl (h.dep 6 rfl)) (x_load_z ((h.same 5 rfl).trans p1133) ((h.far q1132 b1214.lt (by simp)).trans b1214)) (f1225.mono ((Mono.drew _).trans h.mono)),
      fun s v h => does_val rfl (wanted_by (b := false) (want := false) rfl rfl (h.dep 6 rfl)) (x_load_z ((h.same 3 rfl).trans p1098) ((h.far q1097 b1213.lt (by simp)).trans b1213)) (f1219.mono ((Mono.drew _).trans h.mono)),
      fun s v h => does_call rfl (wanted_by (b := false) (want := false) rfl rfl (h.dep 6 rfl)) (x_call2 Try.call16) (mul_k ((h.dep 7 rfl).az (N := (1048576 + 1)) (fl_len la0)) (h.dep 8 rfl) (by omega) (by omega)),
      fun s v h => does_val rfl (wanted_by (b := false) (want := false) rfl rfl (h.dep 6 rfl)) (x_load_z ((h.same 6 rfl).trans p1140) ((h.far q1139 b1215.lt (by simp)).trans b1215)) (f1226.mono ((Mono.drew _).trans h.mono)),
      fun s v h => does_call rfl (wanted_by (b := false) (want := false) rfl rfl (h.dep 6 rfl)) (x_call2 Try.call14) (add_k ((h.dep 9 rfl).az (N := ((1048576 + 1) + 1048576)) (len_mul (fl_len la0) la1)) ((h.dep 10 rfl).az (N := 1048576) (md_len hu la1)) (by omega) (by omega)),
      fun s v h => does_val rfl (wanted_by (b := false) (want := false) rfl rfl (h.dep 6 rfl)) (x_load_z ((h.same 2 rfl).trans p1092) ((h.far q1091 b1212.lt (by simp)).trans b1212)) (f1217.mono ((Mono.drew _).trans h.mono)),
      fun s v h => does_call rfl (wanted_by (b := false) (want := false) rfl rfl (h.dep 6 rfl)) (x_call1 Try.call15) (form_k (h.dep 12 rfl)),
      fun s v h => does_call rfl (wanted_by (b := false) (want := false) rfl rfl (h.dep 6 rfl)) (x_call2 Try.call12) (eq_k (h.dep 11 rfl) (h.dep 13 rfl) (fl_md a b).symm),
      fun s v h => does_val rfl (wanted_by (b := false) (want := false) rfl rfl (h.dep 6 rfl)) (x_not (h.dep 14 rfl)) rfl,
      fun s v h => does_val rfl rfl (x_pick (h.dep 6 rfl)) (h.dep 15 rfl),
      fun s v h => does_val rfl rfl (x_move) (h.dep 16 rfl),
      fun s v h => does_val rfl (wanted_by (b := false) (want := false) rfl rfl (h.dep 17 rfl)) (x_load_z ((h.same 6 rfl).trans p1140) ((h.far q1139 b1215.lt (by simp)).trans b1215)) (f1226.mono ((Mono.drew _).trans h.mono)),
      fun s v h => does_call rfl (wanted_by (b := false) (want := false) rfl rfl (h.dep 17 rfl)) (x_call1 Try.call39) (sign_k ((h.dep 18 rfl).az (N := 1048576) (md_len hu la1))),
      fun s v h => does_val rfl (wanted_by (b := false) (want := false) rfl rfl (h.dep 17 rfl)) (x_neq_int (h.dep 19 rfl) rfl) (congrArg (fun x => Value.bool (!x)) d1),
      fun s v h => does_val rfl (wanted_by (b := false) (want := false) rfl rfl (h.dep 17 rfl)) (x_move) (h.dep 20 rfl),
      fun s v h => does_val rfl (wanted_by (b := true) (want := true) rfl rfl (h.dep 21 rfl)) (x_load_z ((h.same 6 rfl).trans p1140) ((h.far q1139 b1215.lt (by simp)).trans b1215)) (f1226.mono ((Mono.drew _).trans h.mono)),
      fun s v h => does_call rfl (wanted_by (b := true) (want := true) rfl rfl (h.dep 21 rfl)) (x_call1 Try.call39) (sign_k ((h.dep 22 rfl).az (N := 1048576) (md_len hu la1))),
      fun s v h => does_val rfl (wanted_by (b := true) (want := true) rfl rfl (h.dep 21 rfl)) (x_load_z ((h.same 3 rfl).trans p1098) ((h.far q1097 b1213.lt (by simp)).trans b1213)) (f1219.mono ((Mono.drew _).trans h.mono)),
      fun s v h => does_call rfl (wanted_by (b := true) (want := true) rfl rfl (h.dep 21 rfl)) (x_call1 Try.call39) (sign_k (h.dep 24 rfl)),
      fun s v h => does_val rfl (wanted_by (b := true) (want := true) rfl rfl (h.dep 21 rfl)) (x_neq_int (h.dep 23 rfl) (h.dep 25 rfl)) (congrArg (fun x => Value.bool (!x)) d2),
      fun s v h => does_val rfl (wanted_by (b := false) (want := false) rfl rfl (h.dep 17 rfl)) (x_pick (h.dep 21 rfl)) (h.dep 26 rfl),
      fun s v h => does_val rfl rfl (x_pick (h.dep 17 rfl)) (h.dep 27 rfl),
      fun s v h => does_val rfl rfl (x_move) (h.dep 28 rfl),
      fun s v h => does_val rfl (wanted_by (b := false) (want := false) rfl rfl (h.dep 29 rfl)) (x_load_z ((h.same 6 rfl).trans p1140) ((h.far q1139 b1215.lt (by simp)).trans b1215)) (f1226.mono ((Mono.drew _).trans h.mono)),
      fun s v h => does_call rfl (wanted_by (b := false) (want := false) rfl rfl (h.dep 29 rfl)) (x_call1 Try.call41) (abs_k ((h.dep 30 rfl).az (N := 1048576) (md_len hu la1))),
      fun s v h => does_val rfl (wanted_by (b := false) (want := false) rfl rfl (h.dep 29 rfl)) (x_load_z ((h.same 3 rfl).trans p1098) ((h.far q1097 b1213.lt (by simp)).trans b1213)) (f1219.mono ((Mono.drew _).trans h.mono)),
      fun s v h => does_call rfl (wanted_by (b := false) (want := false) rfl rfl (h.dep 29 rfl)) (x_call1 Try.call41) (abs_k (h.dep 32 rfl)),
      fun s v h => does_call rfl (wanted_by (b := false) (want := false) rfl rfl (h.dep 29 rfl)) (x_call2 Try.call40) (zcmp_k ((h.dep 31 rfl).az (N := 1048576) (len_abs (md_len hu la1))) ((h.dep 33 rfl).az (N := 1048576) (len_abs la1))),
      fun s v h => does_val rfl (wanted_by (b := false) (want := false) rfl rfl (h.dep 29 rfl)) (x_geq (h.dep 34 rfl) rfl) (congrArg Value.bool d3),
      fun s v h => does_val rfl rfl (x_pick (h.dep 29 rfl)) (h.dep 35 rfl), trivial⟩
  intro g1234 ts v1234 hts E1234
  simp only [fillL, Nat.reduceAdd, List.setIfInBounds_toArray, List.set_cons_zero, List.set_cons_succ] at hts
  subst hts
  have T1235 : Below w.heap.size w v1234 := (below_toDrew T1206).trans E1234.below
  have l1236 : q1091 < v1205.heap.size := b1212.lt
  have l1237 : q1097 < v1205.heap.size := b1213.lt
  have l1238 : q1132 < v1205.heap.size := b1214.lt
  have l1239 : q1139 < v1205.heap.size := b1215.lt
  have l1240 : q1188 < v1205.heap.size := b1216.lt
  have b1241 : Bx v1234 q1091 24 #[.bool na0, .slice A0 n0 c0] := (E1234.far q1091 b1212.lt (by simp)).trans b1212
  have b1242 : Bx v1234 q1097 24 #[.bool na1, .slice A1 n1 c1] := (E1234.far q1097 b1213.lt (by simp)).trans b1213
  have b1243 : Bx v1234 q1132 t1147 #[.bool x1149, .slice A1150 m1151 c1152] := (E1234.far q1132 b1214.lt (by simp)).trans b1214
  have b1244 : Bx v1234 q1139 t1155 #[.bool x1157, .slice A1158 m1159 c1160] := (E1234.far q1139 b1215.lt (by simp)).trans b1215
  have b1245 : Bx v1234 q1188 t1197 #[.bool x1199, .slice A1200 m1201 c1202] := (E1234.far q1188 b1216.lt (by simp)).trans b1216
  have f1246 := f1217.mono ((Mono.drew _).trans E1234.mono)
  have f1247 := f1218.mono ((Mono.drew _).trans E1234.mono)
  have f1248 := f1219.mono ((Mono.drew _).trans E1234.mono)
  have f1249 := f1220.mono ((Mono.drew _).trans E1234.mono)
  have f1250 := f1221.mono ((Mono.drew _).trans E1234.mono)
  have f1251 := f1222.mono ((Mono.drew _).trans E1234.mono)
  have f1252 := f1223.mono ((Mono.drew _).trans E1234.mono)
  have f1253 := f1224.mono ((Mono.drew _).trans E1234.mono)
  have f1254 := f1225.mono ((Mono.drew _).trans E1234.mono)
  have f1255 := f1226.mono ((Mono.drew _).trans E1234.mono)
  have f1256 := f1227.mono ((Mono.drew _).trans E1234.mono)
  have f1257 := f1228.mono ((Mono.drew _).trans E1234.mono)
  have f1258 := f1229.mono ((Mono.drew _).trans E1234.mono)
  have f1259 := f1230.mono ((Mono.drew _).trans E1234.mono)
  have f1260 := f1231.mono ((Mono.drew _).trans E1234.mono)
  have e1261 : g1234 0 = (.int .i64 0) := E1234.facts 0 (by decide)
  have e1262 : g1234 1 = (.bool false) := E1234.facts 1 (by decide)
  have e1263 : g1234 2 = (.bool false) := E1234.facts 2 (by decide)
  have e1264 : g1234 3 = (.int .i64 0) := E1234.facts 3 (by decide)
  have e1265 : g1234 4 = (.bool false) := E1234.facts 4 (by decide)
  have e1266 : g1234 5 = (.bool false) := E1234.facts 5 (by decide)
  have e1267 : g1234 6 = (.bool false) := E1234.facts 6 (by decide)
  have f1268 : Cz v1234 (g1234 7) (fl a b) := E1234.facts 7 (by decide)
  have f1269 : Az 1048576 v1234 (g1234 8) b := E1234.facts 8 (by decide)
  have f1270 : Cz v1234 (g1234 9) ((fl a b) * b) := E1234.facts 9 (by decide)
  have f1271 : Cz v1234 (g1234 10) (md a b) := E1234.facts 10 (by decide)
  have f1272 : Cz v1234 (g1234 11) (((fl a b) * b) + (md a b)) := E1234.facts 11 (by decide)
  have f1273 : Az 1048576 v1234 (g1234 12) a := E1234.facts 12 (by decide)
  have f1274 : Cz v1234 (g1234 13) a := E1234.facts 13 (by decide)
  have e1275 : g1234 14 = (.bool true) := E1234.facts 14 (by decide)
  have e1276 : g1234 15 = (.bool false) := E1234.facts 15 (by decide)
  have e1277 : g1234 16 = (.bool false) := E1234.facts 16 (by decide)
  have e1278 : g1234 17 = (.bool false) := E1234.facts 17 (by decide)
  have f1279 : Cz v1234 (g1234 18) (md a b) := E1234.facts 18 (by decide)
  have e1280 : g1234 19 = (.int .i64 (md a b).sign) := E1234.facts 19 (by decide)
  have e1281 : g1234 20 = (.bool true) := E1234.facts 20 (by decide)
  have e1282 : g1234 21 = (.bool true) := E1234.facts 21 (by decide)
  have f1283 : Cz v1234 (g1234 22) (md a b) := E1234.facts 22 (by decide)
  have e1284 : g1234 23 = (.int .i64 (md a b).sign) := E1234.facts 23 (by decide)
  have f1285 : Az 1048576 v1234 (g1234 24) b := E1234.facts 24 (by decide)
  have e1286 : g1234 25 = (.int .i64 b.sign) := E1234.facts 25 (by decide)
  have e1287 : g1234 26 = (.bool false) := E1234.facts 26 (by decide)
  have e1288 : g1234 27 = (.bool false) := E1234.facts 27 (by decide)
  have e1289 : g1234 28 = (.bool false) := E1234.facts 28 (by decide)
  have e1290 : g1234 29 = (.bool false) := E1234.facts 29 (by decide)
  have f1291 : Cz v1234 (g1234 30) (md a b) := E1234.facts 30 (by decide)
  have f1292 : Cz v1234 (g1234 31) ((md a b).natAbs : Int) := E1234.facts 31 (by decide)
  have f1293 : Az 1048576 v1234 (g1234 32) b := E1234.facts 32 (by decide)
  have f1294 : Cz v1234 (g1234 33) (b.natAbs : Int) := E1234.facts 33 (by decide)
  have e1295 : g1234 34 = (.int .i64 (((md a b).natAbs : Int) - (b.natAbs : Int)).sign) := E1234.facts 34 (by decide)
  have e1296 : g1234 35 = (.bool false) := E1234.facts 35 (by decide)
  have e1297 : g1234 36 = (.bool false) := E1234.facts 36 (by decide)
  refine then_normal ?_
  refine wp_cond_false e1297 ?_
  refine wp_skip ?_
  refine then_normal ?_
  refine wp_seq ?_
  have HB : w.heap.size ≤ v1234.heap.size := T1235.size
  refine wp_plan_any [.val (.cz 2), .val (.cz (fl (a + a + b) (b + b))), .val (.az 1048576 b), .val (.cz ((fl (a + a + b) (b + b)) * b)), .val (.az 1048576 a), .val (.cz (((fl (a + a + b) (b + b)) * b) - a)), .val (.cz ((((fl (a + a + b) (b + b)) * b) - a).natAbs : Int)), .val (.cz (2 * ((((fl (a + a + b) (b + b)) * b) - a).natAbs : Int))), .new 2 none, .put 10 86] [] [] w.heap.size (by kernel_rfl) (by kernel_rfl) (by kernel_rfl) trivial HB ?_ ?_
  · exact ⟨fun s v h => does_call rfl rfl (x_call1 Try.call42) (of_k rfl (by decide) (by decide)),
      fun s v h => does_val rfl rfl (x_load_z ((h.same 8 rfl).trans p1189) ((h.far q1188 b1245.lt (by simp)).trans b1245)) (f1259.mono ((Mono.drew _).trans h.mono)),
      fun s v h => does_val rfl rfl (x_load_z ((h.same 3 rfl).trans p1098) ((h.far q1097 b1242.lt (by simp)).trans b1242)) (f1248.mono ((Mono.drew _).trans h.mono)),
      fun s v h => does_call rfl rfl (x_call2 Try.call16) (mul_k ((h.dep 1 rfl).az (N := 10000000) lN) (h.dep 2 rfl) (by omega) (by omega)),
      fun s v h => does_val rfl rfl (x_load_z ((h.same 2 rfl).trans p1092) ((h.far q1091 b1241.lt (by simp)).trans b1241)) (f1246.mono ((Mono.drew _).trans h.mono)),
      fun s v h => does_call rfl rfl (x_call2 Try.call13) (sub_k ((h.dep 3 rfl).az (N := 11048576) (len_mul lN la1)) (h.dep 4 rfl) (by omega) (by omega)),
      fun s v h => does_call rfl rfl (x_call1 Try.call41) (abs_k ((h.dep 5 rfl).az (N := 11048577) (len_sub' (n := 11048577) (len_mul lN la1) la0 (by omega) (by omega)))),
      fun s v h => does_call rfl rfl (x_call2 Try.call16) (mul_k ((h.dep 0 rfl).az (N := 1) (show (digs (Int.natAbs 2)).length ≤ 1 from digs_len_le (by decide))) ((h.dep 6 rfl).az (N := 11048577) (len_abs (len_sub' (n := 11048577) (len_mul lN la1) la0 (by omega) (by omega)))) (by omega) (by omega)),
      fun s v h => does_new rfl rfl x_alloc_z (okz _ _ _ _) rfl (.inl rfl),
      fun s v h => by obtain ⟨q, e1, e2, e3⟩ := new_at (h.dep 8 rfl); exact does_put_z rfl rfl e1 (h.dep 7 rfl).shape e3 (Nat.le_trans HB e2), trivial⟩
  intro g1298 ts v1298 hts E1298
  simp only [fillL, Nat.reduceAdd, List.setIfInBounds_toArray, List.set_cons_zero, List.set_cons_succ] at hts
  subst hts
  have T1299 : Below w.heap.size w v1298 := (below_toDrew T1235).trans E1298.below
  have l1300 : q1091 < v1234.heap.size := b1241.lt
  have l1301 : q1097 < v1234.heap.size := b1242.lt
  have l1302 : q1132 < v1234.heap.size := b1243.lt
  have l1303 : q1139 < v1234.heap.size := b1244.lt
  have l1304 : q1188 < v1234.heap.size := b1245.lt
  have b1305 : Bx v1298 q1091 24 #[.bool na0, .slice A0 n0 c0] := (E1298.far q1091 b1241.lt (by simp)).trans b1241
  have b1306 : Bx v1298 q1097 24 #[.bool na1, .slice A1 n1 c1] := (E1298.far q1097 b1242.lt (by simp)).trans b1242
  have b1307 : Bx v1298 q1132 t1147 #[.bool x1149, .slice A1150 m1151 c1152] := (E1298.far q1132 b1243.lt (by simp)).trans b1243
  have b1308 : Bx v1298 q1139 t1155 #[.bool x1157, .slice A1158 m1159 c1160] := (E1298.far q1139 b1244.lt (by simp)).trans b1244
  have b1309 : Bx v1298 q1188 t1197 #[.bool x1199, .slice A1200 m1201 c1202] := (E1298.far q1188 b1245.lt (by simp)).trans b1245
  have f1310 := f1246.mono ((Mono.drew _).trans E1298.mono)
  have f1311 := f1247.mono ((Mono.drew _).trans E1298.mono)
  have f1312 := f1248.mono ((Mono.drew _).trans E1298.mono)
  have f1313 := f1249.mono ((Mono.drew _).trans E1298.mono)
  have f1314 := f1250.mono ((Mono.drew _).trans E1298.mono)
  have f1315 := f1251.mono ((Mono.drew _).trans E1298.mono)
  have f1316 := f1252.mono ((Mono.drew _).trans E1298.mono)
  have f1317 := f1253.mono ((Mono.drew _).trans E1298.mono)
  have f1318 := f1254.mono ((Mono.drew _).trans E1298.mono)
  have f1319 := f1255.mono ((Mono.drew _).trans E1298.mono)
  have f1320 := f1256.mono ((Mono.drew _).trans E1298.mono)
  have f1321 := f1257.mono ((Mono.drew _).trans E1298.mono)
  have f1322 := f1258.mono ((Mono.drew _).trans E1298.mono)
  have f1323 := f1259.mono ((Mono.drew _).trans E1298.mono)
  have f1324 := f1260.mono ((Mono.drew _).trans E1298.mono)
  have f1325 := f1268.mono ((Mono.drew _).trans E1298.mono)
  have f1326 := f1269.mono ((Mono.drew _).trans E1298.mono)
  have f1327 := f1270.mono ((Mono.drew _).trans E1298.mono)
  have f1328 := f1271.mono ((Mono.drew _).trans E1298.mono)
  have f1329 := f1272.mono ((Mono.drew _).trans E1298.mono)
  have f1330 := f1273.mono ((Mono.drew _).trans E1298.mono)
  have f1331 := f1274.mono ((Mono.drew _).trans E1298.mono)
  have f1332 := f1279.mono ((Mono.drew _).trans E1298.mono)
  have f1333 := f1283.mono ((Mono.drew _).trans E1298.mono)
  have f1334 := f1285.mono ((Mono.drew _).trans E1298.mono)
  have f1335 := f1291.mono ((Mono.drew _).trans E1298.mono)
  have f1336 := f1292.mono ((Mono.drew _).trans E1298.mono)
  have f1337 := f1293.mono ((Mono.drew _).trans E1298.mono)
  have f1338 := f1294.mono ((Mono.drew _).trans E1298.mono)
  have f1339 : Cz v1298 (g1298 0) 2 := E1298.facts 0 (by decide)
  have f1340 : Cz v1298 (g1298 1) (fl (a + a + b) (b + b)) := E1298.facts 1 (by decide)
  have f1341 : Az 1048576 v1298 (g1298 2) b := E1298.facts 2 (by decide)
  have f1342 : Cz v1298 (g1298 3) ((fl (a + a + b) (b + b)) * b) := E1298.facts 3 (by decide)
  have f1343 : Az 1048576 v1298 (g1298 4) a := E1298.facts 4 (by decide)
  have f1344 : Cz v1298 (g1298 5) (((fl (a + a + b) (b + b)) * b) - a) := E1298.facts 5 (by decide)
  have f1345 : Cz v1298 (g1298 6) ((((fl (a + a + b) (b + b)) * b) - a).natAbs : Int) := E1298.facts 6 (by decide)
  have f1346 : Cz v1298 (g1298 7) (2 * ((((fl (a + a + b) (b + b)) * b) - a).natAbs : Int)) := E1298.facts 7 (by decide)
  obtain ⟨q1347, p1348, l1349, o1350⟩ : ∃ q, g1298 8 = .pointer (some ⟨q, 0, none⟩) ∧ v1234.heap.size ≤ q ∧ OkB v1298 q 2 := E1298.facts 8 (by decide)
  have h1351 : w.heap.size ≤ q1347 := Nat.le_trans HB l1349
  have n1352 : q1091 ≠ q1347 := by omega
  have n1353 : q1097 ≠ q1347 := by omega
  have n1354 : q1132 ≠ q1347 := by omega
  have n1355 : q1139 ≠ q1347 := by omega
  have n1356 : q1188 ≠ q1347 := by omega
  obtain ⟨t1357, x1359, A1360, m1361, c1362, e1363, b1358⟩ := put_info (E1298.facts 9 (by decide)) p1348 f1346.shape
  have f1364 : Cz v1298 (.agg #[.bool x1359, .slice A1360 m1361 c1362]) (2 * ((((fl (a + a + b) (b + b)) * b) - a).natAbs : Int)) := f1346.at e1363.symm
  refine then_normal ?_
  refine wp_seq ?_
  refine wp_seq ?_
  have HB : w.heap.size ≤ v1298.heap.size := T1299.size
  refine wp_plan_any [.val (.cz (2 * ((((fl (a + a + b) (b + b)) * b) - a).natAbs : Int))), .val (.az 1048576 b), .val (.cz (b.natAbs : Int)), .val (.is (.int .i64 ((2 * ((((fl (a + a + b) (b + b)) * b) - a).natAbs : Int)) - (b.natAbs : Int)).sign)), .val (.is (.bool false))] [] [] w.heap.size (by kernel_rfl) (by kernel_rfl) (by kernel_rfl) trivial HB ?_ ?_
  · exact ⟨fun s v h => does_val rfl rfl (x_load_z ((h.same 10 rfl).trans p1348) ((h.far q1347 b1358.lt (by simp)).trans b1358)) (f1364.mono ((Mono.drew _).trans h.mono)),
      fun s v h => does_val rfl rfl (x_load_z ((h.same 3 rfl).trans p1098) ((h.far q1097 b1306.lt (by simp)).trans b1306)) (f1312.mono ((Mono.drew _).trans h.mono)),
      fun s v h => does_call rfl rfl (x_call1 Try.call41) (abs_k (h.dep 1 rfl)),
      fun s v h => does_call rfl rfl (x_call2 Try.call40) (zcmp_k ((h.dep 0 rfl).az (N := 11048578) (len_mul (show (digs (Int.natAbs 2)).length ≤ 1 from digs_len_le (by decide)) (len_abs (len_sub' (n := 11048577) (len_mul lN la1) la0 (by omega) (by omega))))) ((h.dep 2 rfl).az (N := 1048576) (len_abs la1))),
      fun s v h => does_val rfl rfl (x_gtr (h.dep 3 rfl) rfl) (congrArg Value.bool d4), trivial⟩
  intro g1365 ts v1365 hts E1365
  simp only [fillL, Nat.reduceAdd, List.setIfInBounds_toArray, List.set_cons_zero, List.set_cons_succ] at hts
  subst hts
  have T1366 : Below w.heap.size w v1365 := (below_toDrew T1299).trans E1365.below
  have l1367 : q1091 < v1298.heap.size := b1305.lt
  have l1368 : q1097 < v1298.heap.size := b1306.lt
  have l1369 : q1132 < v1298.heap.size := b1307.lt
  have l1370 : q1139 < v1298.heap.size := b1308.lt
  have l1371 : q1188 < v1298.heap.size := b1309.lt
  have l1372 : q1347 < v1298.heap.size := b1358.lt
  have b1373 : Bx v1365 q1091 24 #[.bool na0, .slice A0 n0 c0] := (E1365.far q1091 b1305.lt (by simp)).trans b1305
  have b1374 : Bx v1365 q1097 24 #[.bool na1, .slice A1 n1 c1] := (E1365.far q1097 b1306.lt (by simp)).trans b1306
  have b1375 : Bx v1365 q1132 t1147 #[.bool x1149, .slice A1150 m1151 c1152] := (E1365.far q1132 b1307.lt (by simp)).trans b1307
  have b1376 : Bx v1365 q1139 t1155 #[.bool x1157, .slice A1158 m1159 c1160] := (E1365.far q1139 b1308.lt (by simp)).trans b1308
  have b1377 : Bx v1365 q1188 t1197 #[.bool x1199, .slice A1200 m1201 c1202] := (E1365.far q1188 b1309.lt (by simp)).trans b1309
  have b1378 : Bx v1365 q1347 t1357 #[.bool x1359, .slice A1360 m1361 c1362] := (E1365.far q1347 b1358.lt (by simp)).trans b1358
  have f1379 := f1310.mono ((Mono.drew _).trans E1365.mono)
  have f1380 := f1311.mono ((Mono.drew _).trans E1365.mono)
  have f1381 := f1312.mono ((Mono.drew _).trans E1365.mono)
  have f1382 := f1313.mono ((Mono.drew _).trans E1365.mono)
  have f1383 := f1314.mono ((Mono.drew _).trans E1365.mono)
  have f1384 := f1315.mono ((Mono.drew _).trans E1365.mono)
  have f1385 := f1316.mono ((Mono.drew _).trans E1365.mono)
  have f1386 := f1317.mono ((Mono.drew _).trans E1365.mono)
  have f1387 := f1318.mono ((Mono.drew _).trans E1365.mono)
  have f1388 := f1319.mono ((Mono.drew _).trans E1365.mono)
  have f1389 := f1320.mono ((Mono.drew _).trans E1365.mono)
  have f1390 := f1321.mono ((Mono.drew _).trans E1365.mono)
  have f1391 := f1322.mono ((Mono.drew _).trans E1365.mono)
  have f1392 := f1323.mono ((Mono.drew _).trans E1365.mono)
  have f1393 := f1324.mono ((Mono.drew _).trans E1365.mono)
  have f1394 := f1325.mono ((Mono.drew _).trans E1365.mono)
  have f1395 := f1326.mono ((Mono.drew _).trans E1365.mono)
  have f1396 := f1327.mono ((Mono.drew _).trans E1365.mono)
  have f1397 := f1328.mono ((Mono.drew _).trans E1365.mono)
  have f1398 := f1329.mono ((Mono.drew _).trans E1365.mono)
  have f1399 := f1330.mono ((Mono.drew _).trans E1365.mono)
  have f1400 := f1331.mono ((Mono.drew _).trans E1365.mono)
  have f1401 := f1332.mono ((Mono.drew _).trans E1365.mono)
  have f1402 := f1333.mono ((Mono.drew _).trans E1365.mono)
  have f1403 := f1334.mono ((Mono.drew _).trans E1365.mono)
  have f1404 := f1335.mono ((Mono.drew _).trans E1365.mono)
  have f1405 := f1336.mono ((Mono.drew _).trans E1365.mono)
  have f1406 := f1337.mono ((Mono.drew _).trans E1365.mono)
  have f1407 := f1338.mono ((Mono.drew _).trans E1365.mono)
  have f1408 := f1339.mono ((Mono.drew _).trans E1365.mono)
  have f1409 := f1340.mono ((Mono.drew _).trans E1365.mono)
  have f1410 := f1341.mono ((Mono.drew _).trans E1365.mono)
  have f1411 := f1342.mono ((Mono.drew _).trans E1365.mono)
  have f1412 := f1343.mono ((Mono.drew _).trans E1365.mono)
  have f1413 := f1344.mono ((Mono.drew _).trans E1365.mono)
  have f1414 := f1345.mono ((Mono.drew _).trans E1365.mono)
  have f1415 := f1346.mono ((Mono.drew _).trans E1365.mono)
  have f1416 := f1364.mono ((Mono.drew _).trans E1365.mono)
  have f1417 : Cz v1365 (g1365 0) (2 * ((((fl (a + a + b) (b + b)) * b) - a).natAbs : Int)) := E1365.facts 0 (by decide)
  have f1418 : Az 1048576 v1365 (g1365 1) b := E1365.facts 1 (by decide)
  have f1419 : Cz v1365 (g1365 2) (b.natAbs : Int) := E1365.facts 2 (by decide)
  have e1420 : g1365 3 = (.int .i64 ((2 * ((((fl (a + a + b) (b + b)) * b) - a).natAbs : Int)) - (b.natAbs : Int)).sign) := E1365.facts 3 (by decide)
  have e1421 : g1365 4 = (.bool false) := E1365.facts 4 (by decide)
  refine then_normal ?_
  refine wp_cond_false e1421 ?_
  refine wp_skip ?_
  refine then_normal ?_
  refine wp_seq ?_
  have HB : w.heap.size ≤ v1365.heap.size := T1366.size
  refine wp_plan_seq [.val (.az 1048576 a), .val (.az 1048576 b), .val (.tup3 (.cz (Int.gcd a b : Int)) (.cz (bezX a b)) (.cz (fl ((Int.gcd a b : Int) - bezX a b * a) b))), .val (.tup3 (.cz (Int.gcd a b : Int)) (.cz (bezX a b)) (.cz (fl ((Int.gcd a b : Int) - bezX a b * a) b))), .val (.cz (Int.gcd a b : Int)), .val (.cz (bezX a b)), .val (.cz (fl ((Int.gcd a b : Int) - bezX a b * a) b)), .new 2 none, .new 2 none, .new 2 none, .put 11 96, .put 12 97, .put 13 98] [] [] w.heap.size (by kernel_rfl) (by kernel_rfl) trivial HB ?_ ?_
  · exact ⟨fun s v h => does_val rfl rfl (x_load_z ((h.same 2 rfl).trans p1092) ((h.far q1091 b1373.lt (by simp)).trans b1373)) (f1379.mono h.mono),
      fun s v h => does_val rfl rfl (x_load_z ((h.same 3 rfl).trans p1098) ((h.far q1097 b1374.lt (by simp)).trans b1374)) (f1381.mono h.mono),
      fun s v h => does_call rfl rfl (x_call2 Try.call33) (zbezout_n (h.dep 0 rfl) (h.dep 1 rfl) (by omega) hu d0),
      fun s v h => does_val rfl rfl (x_move) (h.dep 2 rfl),
      fun s v h => by obtain ⟨r0, r1, r2, e, f0, f1, f2⟩ := tup3_at (h.dep 3 rfl); exact does_val rfl rfl (x_ext e rfl) f0,
      fun s v h => by obtain ⟨r0, r1, r2, e, f0, f1, f2⟩ := tup3_at (h.dep 3 rfl); exact does_val rfl rfl (x_ext e rfl) f1,
      fun s v h => by obtain ⟨r0, r1, r2, e, f0, f1, f2⟩ := tup3_at (h.dep 3 rfl); exact does_val rfl rfl (x_ext e rfl) f2,
      fun s v h => does_new rfl rfl x_alloc_z (okz _ _ _ _) rfl (.inl rfl),
      fun s v h => does_new rfl rfl x_alloc_z (okz _ _ _ _) rfl (.inl rfl),
      fun s v h => does_new rfl rfl x_alloc_z (okz _ _ _ _) rfl (.inl rfl),
      fun s v h => by obtain ⟨q, e1, e2, e3⟩ := new_at (h.dep 7 rfl); exact does_put_z rfl rfl e1 (h.dep 4 rfl).shape e3 (Nat.le_trans HB e2),
      fun s v h => by obtain ⟨q, e1, e2, e3⟩ := new_at (h.dep 8 rfl); exact does_put_z rfl rfl e1 (h.dep 5 rfl).shape e3 (Nat.le_trans HB e2),
      fun s v h => by obtain ⟨q, e1, e2, e3⟩ := new_at (h.dep 9 rfl); exact does_put_z rfl rfl e1 (h.dep 6 rfl).shape e3 (Nat.le_trans HB e2), trivial⟩
  intro g1422 ts v1422 hts E1422
  simp only [fillL, Nat.reduceAdd, List.setIfInBounds_toArray, List.set_cons_zero, List.set_cons_succ] at hts
  subst hts
  have T1423 : Below w.heap.size w v1422 := T1366.trans E1422.below
  have l1424 : q1091 < v1365.heap.size := b1373.lt
  have l1425 : q1097 < v1365.heap.size := b1374.lt
  have l1426 : q1132 < v1365.heap.size := b1375.lt
  have l1427 : q1139 < v1365.heap.size := b1376.lt
  have l1428 : q1188 < v1365.heap.size := b1377.lt
  have l1429 : q1347 < v1365.heap.size := b1378.lt
  have b1430 : Bx v1422 q1091 24 #[.bool na0, .slice A0 n0 c0] := (E1422.far q1091 b1373.lt (by simp)).trans b1373
  have b1431 : Bx v1422 q1097 24 #[.bool na1, .slice A1 n1 c1] := (E1422.far q1097 b1374.lt (by simp)).trans b1374
  have b1432 : Bx v1422 q1132 t1147 #[.bool x1149, .slice A1150 m1151 c1152] := (E1422.far q1132 b1375.lt (by simp)).trans b1375
  have b1433 : Bx v1422 q1139 t1155 #[.bool x1157, .slice A1158 m1159 c1160] := (E1422.far q1139 b1376.lt (by simp)).trans b1376
  have b1434 : Bx v1422 q1188 t1197 #[.bool x1199, .slice A1200 m1201 c1202] := (E1422.far q1188 b1377.lt (by simp)).trans b1377
  have b1435 : Bx v1422 q1347 t1357 #[.bool x1359, .slice A1360 m1361 c1362] := (E1422.far q1347 b1378.lt (by simp)).trans b1378
  have f1436 := f1379.mono E1422.mono
  have f1437 := f1380.mono E1422.mono
  have f1438 := f1381.mono E1422.mono
  have f1439 := f1382.mono E1422.mono
  have f1440 := f1383.mono E1422.mono
  have f1441 := f1384.mono E1422.mono
  have f1442 := f1385.mono E1422.mono
  have f1443 := f1386.mono E1422.mono
  have f1444 := f1387.mono E1422.mono
  have f1445 := f1388.mono E1422.mono
  have f1446 := f1389.mono E1422.mono
  have f1447 := f1390.mono E1422.mono
  have f1448 := f1391.mono E1422.mono
  have f1449 := f1392.mono E1422.mono
  have f1450 := f1393.mono E1422.mono
  have f1451 := f1394.mono E1422.mono
  have f1452 := f1395.mono E1422.mono
  have f1453 := f1396.mono E1422.mono
  have f1454 := f1397.mono E1422.mono
  have f1455 := f1398.mono E1422.mono
  have f1456 := f1399.mono E1422.mono
  have f1457 := f1400.mono E1422.mono
  have f1458 := f1401.mono E1422.mono
  have f1459 := f1402.mono E1422.mono
  have f1460 := f1403.mono E1422.mono
  have f1461 := f1404.mono E1422.mono
  have f1462 := f1405.mono E1422.mono
  have f1463 := f1406.mono E1422.mono
  have f1464 := f1407.mono E1422.mono
  have f1465 := f1408.mono E1422.mono
  have f1466 := f1409.mono E1422.mono
  have f1467 := f1410.mono E1422.mono
  have f1468 := f1411.mono E1422.mono
  have f1469 := f1412.mono E1422.mono
  have f1470 := f1413.mono E1422.mono
  have f1471 := f1414.mono E1422.mono
  have f1472 := f1415.mono E1422.mono
  have f1473 := f1416.mono E1422.mono
  have f1474 := f1417.mono E1422.mono
  have f1475 := f1418.mono E1422.mono
  have f1476 := f1419.mono E1422.mono
  have f1477 : Az 1048576 v1422 (g1422 0) a := E1422.facts 0 (by decide)
  have f1478 : Az 1048576 v1422 (g1422 1) b := E1422.facts 1 (by decide)
  have f1479 : Cz v1422 (g1422 4) (Int.gcd a b : Int) := E1422.facts 4 (by decide)
  have f1480 : Cz v1422 (g1422 5) (bezX a b) := E1422.facts 5 (by decide)
  have f1481 : Cz v1422 (g1422 6) (fl ((Int.gcd a b : Int) - bezX a b * a) b) := E1422.facts 6 (by decide)
  obtain ⟨q1482, p1483, l1484, o1485⟩ : ∃ q, g1422 7 = .pointer (some ⟨q, 0, none⟩) ∧ v1365.heap.size ≤ q ∧ OkB v1422 q 2 := E1422.facts 7 (by decide)
  have h1486 : w.heap.size ≤ q1482 := Nat.le_trans HB l1484
  have n1487 : q1091 ≠ q1482 := by omega
  have n1488 : q1097 ≠ q1482 := by omega
  have n1489 : q1132 ≠ q1482 := by omega
  have n1490 : q1139 ≠ q1482 := by omega
  have n1491 : q1188 ≠ q1482 := by omega
  have n1492 : q1347 ≠ q1482 := by omega
  obtain ⟨q1493, p1494, l1495, o1496⟩ : ∃ q, g1422 8 = .pointer (some ⟨q, 0, none⟩) ∧ v1365.heap.size ≤ q ∧ OkB v1422 q 2 := E1422.facts 8 (by decide)
  have h1497 : w.heap.size ≤ q1493 := Nat.le_trans HB l1495
  have n1498 : q1091 ≠ q1493 := by omega
  have n1499 : q1097 ≠ q1493 := by omega
  have n1500 : q1132 ≠ q1493 := by omega
  have n1501 : q1139 ≠ q1493 := by omega
  have n1502 : q1188 ≠ q1493 := by omega
  have n1503 : q1347 ≠ q1493 := by omega
  have n1504 : q1482 ≠ q1493 := apart_ne (E1422.apart 7 8 (by decide) (by decide) (by decide) ⟨_, _, rfl⟩ ⟨_, _, rfl⟩) p1483 p1494
  obtain ⟨q1505, p1506, l1507, o1508⟩ : ∃ q, g1422 9 = .pointer (some ⟨q, 0, none⟩) ∧ v1365.heap.size ≤ q ∧ OkB v1422 q 2 := E1422.facts 9 (by decide)
  have h1509 : w.heap.size ≤ q1505 := Nat.le_trans HB l1507
  have n1510 : q1091 ≠ q1505 := by omega
  have n1511 : q1097 ≠ q1505 := by omega
  have n1512 : q1132 ≠ q1505 := by omega
  have n1513 : q1139 ≠ q1505 := by omega
  have n1514 : q1188 ≠ q1505 := by omega
  have n1515 : q1347 ≠ q1505 := by omega
  have n1516 : q1482 ≠ q1505 := apart_ne (E1422.apart 7 9 (by decide) (by decide) (by decide) ⟨_, _, rfl⟩ ⟨_, _, rfl⟩) p1483 p1506
  have n1517 : q1493 ≠ q1505 := apart_ne (E1422.apart 8 9 (by decide) (by decide) (by decide) ⟨_, _, rfl⟩ ⟨_, _, rfl⟩) p1494 p1506
  obtain ⟨t1518, x1520, A1521, m1522, c1523, e1524, b1519⟩ := put_info (E1422.facts 10 (by decide)) p1483 f1479.shape
  have f1525 : Cz v1422 (.agg #[.bool x1520, .slice A1521 m1522 c1523]) (Int.gcd a b : Int) := f1479.at e1524.symm
  obtain ⟨t1526, x1528, A1529, m1530, c1531, e1532, b1527⟩ := put_info (E1422.facts 11 (by decide)) p1494 f1480.shape
  have f1533 : Cz v1422 (.agg #[.bool x1528, .slice A1529 m1530 c1531]) (bezX a b) := f1480.at e1532.symm
  obtain ⟨t1534, x1536, A1537, m1538, c1539, e1540, b1535⟩ := put_info (E1422.facts 12 (by decide)) p1506 f1481.shape
  have f1541 : Cz v1422 (.agg #[.bool x1536, .slice A1537 m1538 c1539]) (fl ((Int.gcd a b : Int) - bezX a b * a) b) := f1481.at e1540.symm
  refine then_normal ?_
  refine wp_seq ?_
  refine wp_seq ?_
  have HB : w.heap.size ≤ v1422.heap.size := T1423.size
  refine wp_plan_any [.val (.cz (bezX a b)), .val (.az 1048576 a), .val (.cz ((bezX a b) * a)), .val (.cz (fl ((Int.gcd a b : Int) - bezX a b * a) b)), .val (.az 1048576 b), .val (.cz ((fl ((Int.gcd a b : Int) - bezX a b * a) b) * b)), .val (.cz (((bezX a b) * a) + ((fl ((Int.gcd a b : Int) - bezX a b * a) b) * b))), .val (.cz (Int.gcd a b : Int)), .val (.is (.bool true)), .val (.is (.bool false)), .val (.is (.bool false)), .val (.cz (Int.gcd a b : Int)), .val (.is (.int .i64 (Int.gcd a b : Int).sign)), .val (.is (.bool false)), .val (.is (.bool false))] [] [] w.heap.size (by kernel_rfl) (by kernel_rfl) (by kernel_rfl) trivial HB ?_ ?_
  · exact ⟨fun s v h => does_val rfl rfl (x_load_z ((h.same 12 rfl).trans p1494) ((h.far q1493 b1527.lt (by simp)).trans b1527)) (f1533.mono ((Mono.drew _).trans h.mono)),
      fun s v h => does_val rfl rfl (x_load_z ((h.same 2 rfl).trans p1092) ((h.far q1091 b1430.lt (by simp)).trans b1430)) (f1436.mono ((Mono.drew _).trans h.mono)),
      fun s v h => does_call rfl rfl (x_call2 Try.call16) (mul_k ((h.dep 0 rfl).az (N := 1048576) lX) (h.dep 1 rfl) (by omega) (by omega)),
      fun s v h => does_val rfl rfl (x_load_z ((h.same 13 rfl).trans p1506) ((h.far q1505 b1535.lt (by simp)).trans b1535)) (f1541.mono ((Mono.drew _).trans h.mono)),
      fun s v h => does_val rfl rfl (x_load_z ((h.same 3 rfl).trans p1098) ((h.far q1097 b1431.lt (by simp)).trans b1431)) (f1438.mono ((Mono.drew _).trans h.mono)),
      fun s v h => does_call rfl rfl (x_call2 Try.call16) (mul_k ((h.dep 3 rfl).az (N := 10000000) lY) (h.dep 4 rfl) (by omega) (by omega)),
      fun s v h => does_call rfl rfl (x_call2 Try.call14) (add_k ((h.dep 2 rfl).az (N := 2097152) (len_mul lX la0)) ((h.dep 5 rfl).az (N := 11048576) (len_mul lY la1)) (by omega) (by omega)),
      fun s v h => does_val rfl rfl (x_load_z ((h.same 11 rfl).trans p1483) ((h.far q1482 b1519.lt (by simp)).trans b1519)) (f1525.mono ((Mono.drew _).trans h.mono)),
      fun s v h => does_call rfl rfl (x_call2 Try.call12) (eq_k (h.dep 6 rfl) (h.dep 7 rfl) (bez_eq hu)),
      fun s v h => does_val rfl rfl (x_not (h.dep 8 rfl)) rfl,
      fun s v h => does_val rfl rfl (x_move) (h.dep 9 rfl),
      fun s v h => does_val rfl (wanted_by (b := false) (want := false) rfl rfl (h.dep 10 rfl)) (x_load_z ((h.same 11 rfl).trans p1483) ((h.far q1482 b1519.lt (by simp)).trans b1519)) (f1525.mono ((Mono.drew _).trans h.mono)),
      fun s v h => does_call rfl (wanted_by (b := false) (want := false) rfl rfl (h.dep 10 rfl)) (x_call1 Try.call39) (sign_k ((h.dep 11 rfl).az (N := 1048576) (gcd_len hu la1))),
      fun s v h => does_val rfl (wanted_by (b := false) (want := false) rfl rfl (h.dep 10 rfl)) (x_leq (h.dep 12 rfl) rfl) (congrArg Value.bool d5),
      fun s v h => does_val rfl rfl (x_pick (h.dep 10 rfl)) (h.dep 13 rfl), trivial⟩
  intro g1542 ts v1542 hts E1542
  simp only [fillL, Nat.reduceAdd, List.setIfInBounds_toArray, List.set_cons_zero, List.set_cons_succ] at hts
  subst hts
  have T1543 : Below w.heap.size w v1542 := (below_toDrew T1423).trans E1542.below
  have l1544 : q1091 < v1422.heap.size := b1430.lt
  have l1545 : q1097 < v1422.heap.size := b1431.lt
  have l1546 : q1132 < v1422.heap.size := b1432.lt
  have l1547 : q1139 < v1422.heap.size := b1433.lt
  have l1548 : q1188 < v1422.heap.size := b1434.lt
  have l1549 : q1347 < v1422.heap.size := b1435.lt
  have l1550 : q1482 < v1422.heap.size := b1519.lt
  have l1551 : q1493 < v1422.heap.size := b1527.lt
  have l1552 : q1505 < v1422.heap.size := b1535.lt
  have b1553 : Bx v1542 q1091 24 #[.bool na0, .slice A0 n0 c0] := (E1542.far q1091 b1430.lt (by simp)).trans b1430
  have b1554 : Bx v1542 q1097 24 #[.bool na1, .slice A1 n1 c1] := (E1542.far q1097 b1431.lt (by simp)).trans b1431
  have b1555 : Bx v1542 q1132 t1147 #[.bool x1149, .slice A1150 m1151 c1152] := (E1542.far q1132 b1432.lt (by simp)).trans b1432
  have b1556 : Bx v1542 q1139 t1155 #[.bool x1157, .slice A1158 m1159 c1160] := (E1542.far q1139 b1433.lt (by simp)).trans b1433
  have b1557 : Bx v1542 q1188 t1197 #[.bool x1199, .slice A1200 m1201 c1202] := (E1542.far q1188 b1434.lt (by simp)).trans b1434
  have b1558 : Bx v1542 q1347 t1357 #[.bool x1359, .slice A1360 m1361 c1362] := (E1542.far q1347 b1435.lt (by simp)).trans b1435
  have b1559 : Bx v1542 q1482 t1518 #[.bool x1520, .slice A1521 m1522 c1523] := (E1542.far q1482 b1519.lt (by simp)).trans b1519
  have b1560 : Bx v1542 q1493 t1526 #[.bool x1528, .slice A1529 m1530 c1531] := (E1542.far q1493 b1527.lt (by simp)).trans b1527
  have b1561 : Bx v1542 q1505 t1534 #[.bool x1536, .slice A1537 m1538 c1539] := (E1542.far q1505 b1535.lt (by simp)).trans b1535
  have f1562 := f1436.mono ((Mono.drew _).trans E1542.mono)
  have f1563 := f1437.mono ((Mono.drew _).trans E1542.mono)
  have f1564 := f1438.mono ((Mono.drew _).trans E1542.mono)
  have f1565 := f1439.mono ((Mono.drew _).trans E1542.mono)
  have f1566 := f1440.mono ((Mono.drew _).trans E1542.mono)
  have f1567 := f1441.mono ((Mono.drew _).trans E1542.mono)
  have f1568 := f1442.mono ((Mono.drew _).trans E1542.mono)
  have f1569 := f1443.mono ((Mono.drew _).trans E1542.mono)
  have f1570 := f1444.mono ((Mono.drew _).trans E1542.mono)
  have f1571 := f1445.mono ((Mono.drew _).trans E1542.mono)
  have f1572 := f1446.mono ((Mono.drew _).trans E1542.mono)
  have f1573 := f1447.mono ((Mono.drew _).trans E1542.mono)
  have f1574 := f1448.mono ((Mono.drew _).trans E1542.mono)
  have f1575 := f1449.mono ((Mono.drew _).trans E1542.mono)
  have f1576 := f1450.mono ((Mono.drew _).trans E1542.mono)
  have f1577 := f1451.mono ((Mono.drew _).trans E1542.mono)
  have f1578 := f1452.mono ((Mono.drew _).trans E1542.mono)
  have f1579 := f1453.mono ((Mono.drew _).trans E1542.mono)
  have f1580 := f1454.mono ((Mono.drew _).trans E1542.mono)
  have f1581 := f1455.mono ((Mono.drew _).trans E1542.mono)
  have f1582 := f1456.mono ((Mono.drew _).trans E1542.mono)
  have f1583 := f1457.mono ((Mono.drew _).trans E1542.mono)
  have f1584 := f1458.mono ((Mono.drew _).trans E1542.mono)
  have f1585 := f1459.mono ((Mono.drew _).trans E1542.mono)
  have f1586 := f1460.mono ((Mono.drew _).trans E1542.mono)
  have f1587 := f1461.mono ((Mono.drew _).trans E1542.mono)
  have f1588 := f1462.mono ((Mono.drew _).trans E1542.mono)
  have f1589 := f1463.mono ((Mono.drew _).trans E1542.mono)
  have f1590 := f1464.mono ((Mono.drew _).trans E1542.mono)
  have f1591 := f1465.mono ((Mono.drew _).trans E1542.mono)
  have f1592 := f1466.mono ((Mono.drew _).trans E1542.mono)
  have f1593 := f1467.mono ((Mono.drew _).trans E1542.mono)
  have f1594 := f1468.mono ((Mono.drew _).trans E1542.mono)
  have f1595 := f1469.mono ((Mono.drew _).trans E1542.mono)
  have f1596 := f1470.mono ((Mono.drew _).trans E1542.mono)
  have f1597 := f1471.mono ((Mono.drew _).trans E1542.mono)
  have f1598 := f1472.mono ((Mono.drew _).trans E1542.mono)
  have f1599 := f1473.mono ((Mono.drew _).trans E1542.mono)
  have f1600 := f1474.mono ((Mono.drew _).trans E1542.mono)
  have f1601 := f1475.mono ((Mono.drew _).trans E1542.mono)
  have f1602 := f1476.mono ((Mono.drew _).trans E1542.mono)
  have f1603 := f1477.mono ((Mono.drew _).trans E1542.mono)
  have f1604 := f1478.mono ((Mono.drew _).trans E1542.mono)
  have f1605 := f1479.mono ((Mono.drew _).trans E1542.mono)
  have f1606 := f1480.mono ((Mono.drew _).trans E1542.mono)
  have f1607 := f1481.mono ((Mono.drew _).trans E1542.mono)
  have f1608 := f1525.mono ((Mono.drew _).trans E1542.mono)
  have f1609 := f1533.mono ((Mono.drew _).trans E1542.mono)
  have f1610 := f1541.mono ((Mono.drew _).trans E1542.mono)
  have f1611 : Cz v1542 (g1542 0) (bezX a b) := E1542.facts 0 (by decide)
  have f1612 : Az 1048576 v1542 (g1542 1) a := E1542.facts 1 (by decide)
  have f1613 : Cz v1542 (g1542 2) ((bezX a b) * a) := E1542.facts 2 (by decide)
  have f1614 : Cz v1542 (g1542 3) (fl ((Int.gcd a b : Int) - bezX a b * a) b) := E1542.facts 3 (by decide)
  have f1615 : Az 1048576 v1542 (g1542 4) b := E1542.facts 4 (by decide)
  have f1616 : Cz v1542 (g1542 5) ((fl ((Int.gcd a b : Int) - bezX a b * a) b) * b) := E1542.facts 5 (by decide)
  have f1617 : Cz v1542 (g1542 6) (((bezX a b) * a) + ((fl ((Int.gcd a b : Int) - bezX a b * a) b) * b)) := E1542.facts 6 (by decide)
  have f1618 : Cz v1542 (g1542 7) (Int.gcd a b : Int) := E1542.facts 7 (by decide)
  have e1619 : g1542 8 = (.bool true) := E1542.facts 8 (by decide)
  have e1620 : g1542 9 = (.bool false) := E1542.facts 9 (by decide)
  have e1621 : g1542 10 = (.bool false) := E1542.facts 10 (by decide)
  have f1622 : Cz v1542 (g1542 11) (Int.gcd a b : Int) := E1542.facts 11 (by decide)
  have e1623 : g1542 12 = (.int .i64 (Int.gcd a b : Int).sign) := E1542.facts 12 (by decide)
  have e1624 : g1542 13 = (.bool false) := E1542.facts 13 (by decide)
  have e1625 : g1542 14 = (.bool false) := E1542.facts 14 (by decide)
  refine then_normal ?_
  refine wp_cond_false e1625 ?_
  refine wp_skip ?_
  refine then_normal ?_
  refine wp_seq ?_
  have HB : w.heap.size ≤ v1542.heap.size := T1543.size
  refine wp_plan_seq [.val (.az 1048576 a), .val (.cz (Int.gcd a b : Int)), .val (.tup2 (.cz (fl a (Int.gcd a b : Int))) (.is (.int .i64 0))), .val (.tup2 (.cz (fl a (Int.gcd a b : Int))) (.is (.int .i64 0))), .val (.cz (fl a (Int.gcd a b : Int))), .val (.is (.int .i64 0)), .new 2 none, .put 14 118, .val (.is (.int .i64 0))] [] [] w.heap.size (by kernel_rfl) (by kernel_rfl) trivial HB ?_ ?_
  · exact ⟨fun s v h => does_val rfl rfl (x_load_z ((h.same 2 rfl).trans p1092) ((h.far q1091 b1553.lt (by simp)).trans b1553)) (f1562.mono h.mono),
      fun s v h => does_val rfl rfl (x_load_z ((h.same 11 rfl).trans p1483) ((h.far q1482 b1559.lt (by simp)).trans b1559)) (f1608.mono h.mono),
      fun s v h => does_call rfl rfl (x_call2 Try.call26) (zexact_a (h.dep 0 rfl) ((h.dep 1 rfl).az (N := 1048576) (gcd_len hu la1)) (by omega) (by omega) (by have := gcd_pos (a := a) hu; omega) (by rw [md_gcd_l hu]; rfl)),
      fun s v h => does_val rfl rfl (x_move) (h.dep 2 rfl),
      fun s v h => by obtain ⟨r0, r1, e, f0, f1⟩ := tup2_at (h.dep 3 rfl); exact does_val rfl rfl (x_ext e rfl) f0,
      fun s v h => by obtain ⟨r0, r1, e, f0, f1⟩ := tup2_at (h.dep 3 rfl); exact does_val rfl rfl (x_ext e rfl) f1,
      fun s v h => does_new rfl rfl x_alloc_z (okz _ _ _ _) rfl (.inl rfl),
      fun s v h => by obtain ⟨q, e1, e2, e3⟩ := new_at (h.dep 6 rfl); exact does_put_z rfl rfl e1 (h.dep 4 rfl).shape e3 (Nat.le_trans HB e2),
      fun s v h => does_val rfl rfl (x_assign) (h.dep 5 rfl), trivial⟩
  intro g1626 ts v1626 hts E1626
  simp only [fillL, Nat.reduceAdd, List.setIfInBounds_toArray, List.set_cons_zero, List.set_cons_succ] at hts
  subst hts
  have T1627 : Below w.heap.size w v1626 := T1543.trans E1626.below
  have l1628 : q1091 < v1542.heap.size := b1553.lt
  have l1629 : q1097 < v1542.heap.size := b1554.lt
  have l1630 : q1132 < v1542.heap.size := b1555.lt
  have l1631 : q1139 < v1542.heap.size := b1556.lt
  have l1632 : q1188 < v1542.heap.size := b1557.lt
  have l1633 : q1347 < v1542.heap.size := b1558.lt
  have l1634 : q1482 < v1542.heap.size := b1559.lt
  have l1635 : q1493 < v1542.heap.size := b1560.lt
  have l1636 : q1505 < v1542.heap.size := b1561.lt
  have b1637 : Bx v1626 q1091 24 #[.bool na0, .slice A0 n0 c0] := (E1626.far q1091 b1553.lt (by simp)).trans b1553
  have b1638 : Bx v1626 q1097 24 #[.bool na1, .slice A1 n1 c1] := (E1626.far q1097 b1554.lt (by simp)).trans b1554
  have b1639 : Bx v1626 q1132 t1147 #[.bool x1149, .slice A1150 m1151 c1152] := (E1626.far q1132 b1555.lt (by simp)).trans b1555
  have b1640 : Bx v1626 q1139 t1155 #[.bool x1157, .slice A1158 m1159 c1160] := (E1626.far q1139 b1556.lt (by simp)).trans b1556
  have b1641 : Bx v1626 q1188 t1197 #[.bool x1199, .slice A1200 m1201 c1202] := (E1626.far q1188 b1557.lt (by simp)).trans b1557
  have b1642 : Bx v1626 q1347 t1357 #[.bool x1359, .slice A1360 m1361 c1362] := (E1626.far q1347 b1558.lt (by simp)).trans b1558
  have b1643 : Bx v1626 q1482 t1518 #[.bool x1520, .slice A1521 m1522 c1523] := (E1626.far q1482 b1559.lt (by simp)).trans b1559
  have b1644 : Bx v1626 q1493 t1526 #[.bool x1528, .slice A1529 m1530 c1531] := (E1626.far q1493 b1560.lt (by simp)).trans b1560
  have b1645 : Bx v1626 q1505 t1534 #[.bool x1536, .slice A1537 m1538 c1539] := (E1626.far q1505 b1561.lt (by simp)).trans b1561
  have f1646 := f1562.mono E1626.mono
  have f1647 := f1563.mono E1626.mono
  have f1648 := f1564.mono E1626.mono
  have f1649 := f1565.mono E1626.mono
  have f1650 := f1566.mono E1626.mono
  have f1651 := f1567.mono E1626.mono
  have f1652 := f1568.mono E1626.mono
  have f1653 := f1569.mono E1626.mono
  have f1654 := f1570.mono E1626.mono
  have f1655 := f1571.mono E1626.mono
  have f1656 := f1572.mono E1626.mono
  have f1657 := f1573.mono E1626.mono
  have f1658 := f1574.mono E1626.mono
  have f1659 := f1575.mono E1626.mono
  have f1660 := f1576.mono E1626.mono
  have f1661 := f1577.mono E1626.mono
  have f1662 := f1578.mono E1626.mono
  have f1663 := f1579.mono E1626.mono
  have f1664 := f1580.mono E1626.mono
  have f1665 := f1581.mono E1626.mono
  have f1666 := f1582.mono E1626.mono
  have f1667 := f1583.mono E1626.mono
  have f1668 := f1584.mono E1626.mono
  have f1669 := f1585.mono E1626.mono
  have f1670 := f1586.mono E1626.mono
  have f1671 := f1587.mono E1626.mono
  have f1672 := f1588.mono E1626.mono
  have f1673 := f1589.mono E1626.mono
  have f1674 := f1590.mono E1626.mono
  have f1675 := f1591.mono E1626.mono
  have f1676 := f1592.mono E1626.mono
  have f1677 := f1593.mono E1626.mono
  have f1678 := f1594.mono E1626.mono
  have f1679 := f1595.mono E1626.mono
  have f1680 := f1596.mono E1626.mono
  have f1681 := f1597.mono E1626.mono
  have f1682 := f1598.mono E1626.mono
  have f1683 := f1599.mono E1626.mono
  have f1684 := f1600.mono E1626.mono
  have f1685 := f1601.mono E1626.mono
  have f1686 := f1602.mono E1626.mono
  have f1687 := f1603.mono E1626.mono
  have f1688 := f1604.mono E1626.mono
  have f1689 := f1605.mono E1626.mono
  have f1690 := f1606.mono E1626.mono
  have f1691 := f1607.mono E1626.mono
  have f1692 := f1608.mono E1626.mono
  have f1693 := f1609.mono E1626.mono
  have f1694 := f1610.mono E1626.mono
  have f1695 := f1611.mono E1626.mono
  have f1696 := f1612.mono E1626.mono
  have f1697 := f1613.mono E1626.mono
  have f1698 := f1614.mono E1626.mono
  have f1699 := f1615.mono E1626.mono
  have f1700 := f1616.mono E1626.mono
  have f1701 := f1617.mono E1626.mono
  have f1702 := f1618.mono E1626.mono
  have f1703 := f1622.mono E1626.mono
  have f1704 : Az 1048576 v1626 (g1626 0) a := E1626.facts 0 (by decide)
  have f1705 : Cz v1626 (g1626 1) (Int.gcd a b : Int) := E1626.facts 1 (by decide)
  have f1706 : Cz v1626 (g1626 4) (fl a (Int.gcd a b : Int)) := E1626.facts 4 (by decide)
  have e1707 : g1626 5 = (.int .i64 0) := E1626.facts 5 (by decide)
  have e1708 : g1626 8 = (.int .i64 0) := E1626.facts 8 (by decide)
  obtain ⟨q1709, p1710, l1711, o1712⟩ : ∃ q, g1626 6 = .pointer (some ⟨q, 0, none⟩) ∧ v1542.heap.size ≤ q ∧ OkB v1626 q 2 := E1626.facts 6 (by decide)
  have h1713 : w.heap.size ≤ q1709 := Nat.le_trans HB l1711
  have n1714 : q1091 ≠ q1709 := by omega
  have n1715 : q1097 ≠ q1709 := by omega
  have n1716 : q1132 ≠ q1709 := by omega
  have n1717 : q1139 ≠ q1709 := by omega
  have n1718 : q1188 ≠ q1709 := by omega
  have n1719 : q1347 ≠ q1709 := by omega
  have n1720 : q1482 ≠ q1709 := by omega
  have n1721 : q1493 ≠ q1709 := by omega
  have n1722 : q1505 ≠ q1709 := by omega
  obtain ⟨t1723, x1725, A1726, m1727, c1728, e1729, b1724⟩ := put_info (E1626.facts 7 (by decide)) p1710 f1706.shape
  have f1730 : Cz v1626 (.agg #[.bool x1725, .slice A1726 m1727 c1728]) (fl a (Int.gcd a b : Int)) := f1706.at e1729.symm
  refine then_normal ?_
  refine wp_seq ?_
  have HB : w.heap.size ≤ v1626.heap.size := T1627.size
  refine wp_plan_seq [.val (.az 1048576 b), .val (.cz (Int.gcd a b : Int)), .val (.tup2 (.cz (fl b (Int.gcd a b : Int))) (.is (.int .i64 0))), .val (.tup2 (.cz (fl b (Int.gcd a b : Int))) (.is (.int .i64 0))), .val (.cz (fl b (Int.gcd a b : Int))), .val (.is (.int .i64 0)), .new 2 none, .put 16 124, .val (.is (.int .i64 0))] [] [] w.heap.size (by kernel_rfl) (by kernel_rfl) trivial HB ?_ ?_
  · exact ⟨fun s v h => does_val rfl rfl (x_load_z ((h.same 3 rfl).trans p1098) ((h.far q1097 b1638.lt (by simp)).trans b1638)) (f1648.mono h.mono),
      fun s v h => does_val rfl rfl (x_load_z ((h.same 11 rfl).trans p1483) ((h.far q1482 b1643.lt (by simp)).trans b1643)) (f1692.mono h.mono),
      fun s v h => does_call rfl rfl (x_call2 Try.call26) (zexact_a (h.dep 0 rfl) ((h.dep 1 rfl).az (N := 1048576) (gcd_len hu la1)) (by omega) (by omega) (by have := gcd_pos (a := a) hu; omega) (by rw [md_gcd_r hu]; rfl)),
      fun s v h => does_val rfl rfl (x_move) (h.dep 2 rfl),
      fun s v h => by obtain ⟨r0, r1, e, f0, f1⟩ := tup2_at (h.dep 3 rfl); exact does_val rfl rfl (x_ext e rfl) f0,
      fun s v h => by obtain ⟨r0, r1, e, f0, f1⟩ := tup2_at (h.dep 3 rfl); exact does_val rfl rfl (x_ext e rfl) f1,
      fun s v h => does_new rfl rfl x_alloc_z (okz _ _ _ _) rfl (.inl rfl),
      fun s v h => by obtain ⟨q, e1, e2, e3⟩ := new_at (h.dep 6 rfl); exact does_put_z rfl rfl e1 (h.dep 4 rfl).shape e3 (Nat.le_trans HB e2),
      fun s v h => does_val rfl rfl (x_assign) (h.dep 5 rfl), trivial⟩
  intro g1731 ts v1731 hts E1731
  simp only [fillL, Nat.reduceAdd, List.setIfInBounds_toArray, List.set_cons_zero, List.set_cons_succ] at hts
  subst hts
  have T1732 : Below w.heap.size w v1731 := T1627.trans E1731.below
  have l1733 : q1091 < v1626.heap.size := b1637.lt
  have l1734 : q1097 < v1626.heap.size := b1638.lt
  have l1735 : q1132 < v1626.heap.size := b1639.lt
  have l1736 : q1139 < v1626.heap.size := b1640.lt
  have l1737 : q1188 < v1626.heap.size := b1641.lt
  have l1738 : q1347 < v1626.heap.size := b1642.lt
  have l1739 : q1482 < v1626.heap.size := b1643.lt
  have l1740 : q1493 < v1626.heap.size := b1644.lt
  have l1741 : q1505 < v1626.heap.size := b1645.lt
  have l1742 : q1709 < v1626.heap.size := b1724.lt
  have b1743 : Bx v1731 q1091 24 #[.bool na0, .slice A0 n0 c0] := (E1731.far q1091 b1637.lt (by simp)).trans b1637
  have b1744 : Bx v1731 q1097 24 #[.bool na1, .slice A1 n1 c1] := (E1731.far q1097 b1638.lt (by simp)).trans b1638
  have b1745 : Bx v1731 q1132 t1147 #[.bool x1149, .slice A1150 m1151 c1152] := (E1731.far q1132 b1639.lt (by simp)).trans b1639
  have b1746 : Bx v1731 q1139 t1155 #[.bool x1157, .slice A1158 m1159 c1160] := (E1731.far q1139 b1640.lt (by simp)).trans b1640
  have b1747 : Bx v1731 q1188 t1197 #[.bool x1199, .slice A1200 m1201 c1202] := (E1731.far q1188 b1641.lt (by simp)).trans b1641
  have b1748 : Bx v1731 q1347 t1357 #[.bool x1359, .slice A1360 m1361 c1362] := (E1731.far q1347 b1642.lt (by simp)).trans b1642
  have b1749 : Bx v1731 q1482 t1518 #[.bool x1520, .slice A1521 m1522 c1523] := (E1731.far q1482 b1643.lt (by simp)).trans b1643
  have b1750 : Bx v1731 q1493 t1526 #[.bool x1528, .slice A1529 m1530 c1531] := (E1731.far q1493 b1644.lt (by simp)).trans b1644
  have b1751 : Bx v1731 q1505 t1534 #[.bool x1536, .slice A1537 m1538 c1539] := (E1731.far q1505 b1645.lt (by simp)).trans b1645
  have b1752 : Bx v1731 q1709 t1723 #[.bool x1725, .slice A1726 m1727 c1728] := (E1731.far q1709 b1724.lt (by simp)).trans b1724
  have f1753 := f1646.mono E1731.mono
  have f1754 := f1647.mono E1731.mono
  have f1755 := f1648.mono E1731.mono
  have f1756 := f1649.mono E1731.mono
  have f1757 := f1650.mono E1731.mono
  have f1758 := f1651.mono E1731.mono
  have f1759 := f1652.mono E1731.mono
  have f1760 := f1653.mono E1731.mono
  have f1761 := f1654.mono E1731.mono
  have f1762 := f1655.mono E1731.mono
  have f1763 := f1656.mono E1731.mono
  have f1764 := f1657.mono E1731.mono
  have f1765 := f1658.mono E1731.mono
  have f1766 := f1659.mono E1731.mono
  have f1767 := f1660.mono E1731.mono
  have f1768 := f1661.mono E1731.mono
  have f1769 := f1662.mono E1731.mono
  have f1770 := f1663.mono E1731.mono
  have f1771 := f1664.mono E1731.mono
  have f1772 := f1665.mono E1731.mono
  have f1773 := f1666.mono E1731.mono
  have f1774 := f1667.mono E1731.mono
  have f1775 := f1668.mono E1731.mono
  have f1776 := f1669.mono E1731.mono
  have f1777 := f1670.mono E1731.mono
  have f1778 := f1671.mono E1731.mono
  have f1779 := f1672.mono E1731.mono
  have f1780 := f1673.mono E1731.mono
  have f1781 := f1674.mono E1731.mono
  have f1782 := f1675.mono E1731.mono
  have f1783 := f1676.mono E1731.mono
  have f1784 := f1677.mono E1731.mono
  have f1785 := f1678.mono E1731.mono
  have f1786 := f1679.mono E1731.mono
  have f1787 := f1680.mono E1731.mono
  have f1788 := f1681.mono E1731.mono
  have f1789 := f1682.mono E1731.mono
  have f1790 := f1683.mono E1731.mono
  have f1791 := f1684.mono E1731.mono
  have f1792 := f1685.mono E1731.mono
  have f1793 := f1686.mono E1731.mono
  have f1794 := f1687.mono E1731.mono
  have f1795 := f1688.mono E1731.mono
  have f1796 := f1689.mono E1731.mono
  have f1797 := f1690.mono E1731.mono
  have f1798 := f1691.mono E1731.mono
  have f1799 := f1692.mono E1731.mono
  have f1800 := f1693.mono E1731.mono
  have f1801 := f1694.mono E1731.mono
  have f1802 := f1695.mono E1731.mono
  have f1803 := f1696.mono E1731.mono
  have f1804 := f1697.mono E1731.mono
  have f1805 := f1698.mono E1731.mono
  have f1806 := f1699.mono E1731.mono
  have f1807 := f1700.mono E1731.mono
  have f1808 := f1701.mono E1731.mono
  have f1809 := f1702.mono E1731.mono
  have f1810 := f1703.mono E1731.mono
  have f1811 := f1704.mono E1731.mono
  have f1812 := f1705.mono E1731.mono
  have f1813 := f1706.mono E1731.mono
  have f1814 := f1730.mono E1731.mono
  have f1815 : Az 1048576 v1731 (g1731 0) b := E1731.facts 0 (by decide)
  have f1816 : Cz v1731 (g1731 1) (Int.gcd a b : Int) := E1731.facts 1 (by decide)
  have f1817 : Cz v1731 (g1731 4) (fl b (Int.gcd a b : Int)) := E1731.facts 4 (by decide)
  have e1818 : g1731 5 = (.int .i64 0) := E1731.facts 5 (by decide)
  have e1819 : g1731 8 = (.int .i64 0) := E1731.facts 8 (by decide)
  obtain ⟨q1820, p1821, l1822, o1823⟩ : ∃ q, g1731 6 = .pointer (some ⟨q, 0, none⟩) ∧ v1626.heap.size ≤ q ∧ OkB v1731 q 2 := E1731.facts 6 (by decide)
  have h1824 : w.heap.size ≤ q1820 := Nat.le_trans HB l1822
  have n1825 : q1091 ≠ q1820 := by omega
  have n1826 : q1097 ≠ q1820 := by omega
  have n1827 : q1132 ≠ q1820 := by omega
  have n1828 : q1139 ≠ q1820 := by omega
  have n1829 : q1188 ≠ q1820 := by omega
  have n1830 : q1347 ≠ q1820 := by omega
  have n1831 : q1482 ≠ q1820 := by omega
  have n1832 : q1493 ≠ q1820 := by omega
  have n1833 : q1505 ≠ q1820 := by omega
  have n1834 : q1709 ≠ q1820 := by omega
  obtain ⟨t1835, x1837, A1838, m1839, c1840, e1841, b1836⟩ := put_info (E1731.facts 7 (by decide)) p1821 f1817.shape
  have f1842 : Cz v1731 (.agg #[.bool x1837, .slice A1838 m1839 c1840]) (fl b (Int.gcd a b : Int)) := f1817.at e1841.symm
  refine then_normal ?_
  refine wp_seq ?_
  have HB : w.heap.size ≤ v1731.heap.size := T1732.size
  refine wp_plan_any [.val (.is (.int .i64 0)), .val (.is (.bool true)), .val (.is (.bool true)), .val (.is (.int .i64 0)), .val (.is (.bool true)), .val (.is (.bool true)), .val (.is (.bool true)), .val (.cz (bezX a b)), .val (.is (.int .i64 (bezX a b).sign)), .val (.is (.bool true)), .val (.is (.bool true)), .val (.is (.bool true)), .val (.cz (bezX a b)), .val (.cz (Int.gcd a b : Int)), .val (.cz ((bezX a b) * (Int.gcd a b : Int))), .val (.az 1048576 b), .val (.cz (b.natAbs : Int)), .val (.is (.int .i64 (((bezX a b) * (Int.gcd a b : Int)) - (b.natAbs : Int)).sign)), .val (.is (.bool true)), .val (.is (.bool true)), .val (.is (.bool true))] [] [] w.heap.size (by kernel_rfl) (by kernel_rfl) (by kernel_rfl) trivial HB ?_ ?_
  · exact ⟨fun s v h => does_val rfl rfl (x_move) ((h.same 15 rfl).trans e1708),
      fun s v h => does_val rfl rfl (x_eql_err (h.dep 0 rfl) rfl) rfl,
      fun s v h => does_val rfl rfl (x_move) (h.dep 1 rfl),
      fun s v h => does_val rfl (wanted_by (b := true) (want := true) rfl rfl (h.dep 2 rfl)) (x_move) ((h.same 17 rfl).trans e1819),
      fun s v h => does_val rfl (wanted_by (b := true) (want := true) rfl rfl (h.dep 2 rfl)) (x_eql_err (h.dep 3 rfl) rfl) rfl,
      fun s v h => does_val rfl rfl (x_pick (h.dep 2 rfl)) (h.dep 4 rfl),
      fun s v h => does_val rfl rfl (x_move) (h.dep 5 rfl),
      fun s v h => does_val rfl (wanted_by (b := true) (want := true) rfl rfl (h.dep 6 rfl)) (x_load_z ((h.same 12 rfl).trans p1494) ((h.far q1493 b1750.lt (by simp)).trans b1750)) (f1800.mono ((Mono.drew _).trans h.mono)),
      fun s v h => does_call rfl (wanted_by (b := true) (want := true) rfl rfl (h.dep 6 rfl)) (x_call1 Try.call39) (sign_k ((h.dep 7 rfl).az (N := 1048576) lX)),
      fun s v h => does_val rfl (wanted_by (b := true) (want := true) rfl rfl (h.dep 6 rfl)) (x_geq (h.dep 8 rfl) rfl) (congrArg Value.bool d6),
      fun s v h => does_val rfl rfl (x_pick (h.dep 6 rfl)) (h.dep 9 rfl),
      fun s v h => does_val rfl rfl (x_move) (h.dep 10 rfl),
      fun s v h => does_val rfl (wanted_by (b := true) (want := true) rfl rfl (h.dep 11 rfl)) (x_load_z ((h.same 12 rfl).trans p1494) ((h.far q1493 b1750.lt (by simp)).trans b1750)) (f1800.mono ((Mono.drew _).trans h.mono)),
      fun s v h => does_val rfl (wanted_by (b := true) (want := true) rfl rfl (h.dep 11 rfl)) (x_load_z ((h.same 11 rfl).trans p1483) ((h.far q1482 b1749.lt (by simp)).trans b1749)) (f1799.mono ((Mono.drew _).trans h.mono)),
      fun s v h => does_call rfl (wanted_by (b := true) (want := true) rfl rfl (h.dep 11 rfl)) (x_call2 Try.call16) (mul_k ((h.dep 12 rfl).az (N := 1048576) lX) ((h.dep 13 rfl).az (N := 1048576) (gcd_len hu la1)) (by omega) (by omega)),
      fun s v h => does_val rfl (wanted_by (b := true) (want := true) rfl rfl (h.dep 11 rfl)) (x_load_z ((h.same 3 rfl).trans p1098) ((h.far q1097 b1744.lt (by simp)).trans b1744)) (f1755.mono ((Mono.drew _).trans h.mono)),
      fun s v h => does_call rfl (wanted_by (b := true) (want := true) rfl rfl (h.dep 11 rfl)) (x_call1 Try.call41) (abs_k (h.dep 15 rfl)),
      fun s v h => does_call rfl (wanted_by (b := true) (want := true) rfl rfl (h.dep 11 rfl)) (x_call2 Try.call40) (zcmp_k ((h.dep 14 rfl).az (N := 2097152) (len_mul lX (gcd_len hu la1))) ((h.dep 16 rfl).az (N := 1048576) (len_abs la1))),
      fun s v h => does_val rfl (wanted_by (b := true) (want := true) rfl rfl (h.dep 11 rfl)) (x_lss (h.dep 17 rfl) rfl) (congrArg Value.bool d7),
      fun s v h => does_val rfl rfl (x_pick (h.dep 11 rfl)) (h.dep 18 rfl),
      fun s v h => does_val rfl rfl (x_assign) (h.dep 19 rfl), trivial⟩
  intro g1843 ts v1843 hts E1843
  simp only [fillL, Nat.reduceAdd, List.setIfInBounds_toArray, List.set_cons_zero, List.set_cons_succ] at hts
  subst hts
  have T1844 : Below w.heap.size w v1843 := (below_toDrew T1732).trans E1843.below
  have l1845 : q1091 < v1731.heap.size := b1743.lt
  have l1846 : q1097 < v1731.heap.size := b1744.lt
  have l1847 : q1132 < v1731.heap.size := b1745.lt
  have l1848 : q1139 < v1731.heap.size := b1746.lt
  have l1849 : q1188 < v1731.heap.size := b1747.lt
  have l1850 : q1347 < v1731.heap.size := b1748.lt
  have l1851 : q1482 < v1731.heap.size := b1749.lt
  have l1852 : q1493 < v1731.heap.size := b1750.lt
  have l1853 : q1505 < v1731.heap.size := b1751.lt
  have l1854 : q1709 < v1731.heap.size := b1752.lt
  have l1855 : q1820 < v1731.heap.size := b1836.lt
  have b1856 : Bx v1843 q1091 24 #[.bool na0, .slice A0 n0 c0] := (E1843.far q1091 b1743.lt (by simp)).trans b1743
  have b1857 : Bx v1843 q1097 24 #[.bool na1, .slice A1 n1 c1] := (E1843.far q1097 b1744.lt (by simp)).trans b1744
  have b1858 : Bx v1843 q1132 t1147 #[.bool x1149, .slice A1150 m1151 c1152] := (E1843.far q1132 b1745.lt (by simp)).trans b1745
  have b1859 : Bx v1843 q1139 t1155 #[.bool x1157, .slice A1158 m1159 c1160] := (E1843.far q1139 b1746.lt (by simp)).trans b1746
  have b1860 : Bx v1843 q1188 t1197 #[.bool x1199, .slice A1200 m1201 c1202] := (E1843.far q1188 b1747.lt (by simp)).trans b1747
  have b1861 : Bx v1843 q1347 t1357 #[.bool x1359, .slice A1360 m1361 c1362] := (E1843.far q1347 b1748.lt (by simp)).trans b1748
  have b1862 : Bx v1843 q1482 t1518 #[.bool x1520, .slice A1521 m1522 c1523] := (E1843.far q1482 b1749.lt (by simp)).trans b1749
  have b1863 : Bx v1843 q1493 t1526 #[.bool x1528, .slice A1529 m1530 c1531] := (E1843.far q1493 b1750.lt (by simp)).trans b1750
  have b1864 : Bx v1843 q1505 t1534 #[.bool x1536, .slice A1537 m1538 c1539] := (E1843.far q1505 b1751.lt (by simp)).trans b1751
  have b1865 : Bx v1843 q1709 t1723 #[.bool x1725, .slice A1726 m1727 c1728] := (E1843.far q1709 b1752.lt (by simp)).trans b1752
  have b1866 : Bx v1843 q1820 t1835 #[.bool x1837, .slice A1838 m1839 c1840] := (E1843.far q1820 b1836.lt (by simp)).trans b1836
  have f1867 := f1753.mono ((Mono.drew _).trans E1843.mono)
  have f1868 := f1754.mono ((Mono.drew _).trans E1843.mono)
  have f1869 := f1755.mono ((Mono.drew _).trans E1843.mono)
  have f1870 := f1756.mono ((Mono.drew _).trans E1843.mono)
  have f1871 := f1757.mono ((Mono.drew _).trans E1843.mono)
  have f1872 := f1758.mono ((Mono.drew _).trans E1843.mono)
  have f1873 := f1759.mono ((Mono.drew _).trans E1843.mono)
  have f1874 := f1760.mono ((Mono.drew _).trans E1843.mono)
  have f1875 := f1761.mono ((Mono.drew _).trans E1843.mono)
  have f1876 := f1762.mono ((Mono.drew _).trans E1843.mono)
  have f1877 := f1763.mono ((Mono.drew _).trans E1843.mono)
  have f1878 := f1764.mono ((Mono.drew _).trans E1843.mono)
  have f1879 := f1765.mono ((Mono.drew _).trans E1843.mono)
  have f1880 := f1766.mono ((Mono.drew _).trans E1843.mono)
  have f1881 := f1767.mono ((Mono.drew _).trans E1843.mono)
  have f1882 := f1768.mono ((Mono.drew _).trans E1843.mono)
  have f1883 := f1769.mono ((Mono.drew _).trans E1843.mono)
  have f1884 := f1770.mono ((Mono.drew _).trans E1843.mono)
  have f1885 := f1771.mono ((Mono.drew _).trans E1843.mono)
  have f1886 := f1772.mono ((Mono.drew _).trans E1843.mono)
  have f1887 := f1773.mono ((Mono.drew _).trans E1843.mono)
  have f1888 := f1774.mono ((Mono.drew _).trans E1843.mono)
  have f1889 := f1775.mono ((Mono.drew _).trans E1843.mono)
  have f1890 := f1776.mono ((Mono.drew _).trans E1843.mono)
  have f1891 := f1777.mono ((Mono.drew _).trans E1843.mono)
  have f1892 := f1778.mono ((Mono.drew _).trans E1843.mono)
  have f1893 := f1779.mono ((Mono.drew _).trans E1843.mono)
  have f1894 := f1780.mono ((Mono.drew _).trans E1843.mono)
  have f1895 := f1781.mono ((Mono.drew _).trans E1843.mono)
  have f1896 := f1782.mono ((Mono.drew _).trans E1843.mono)
  have f1897 := f1783.mono ((Mono.drew _).trans E1843.mono)
  have f1898 := f1784.mono ((Mono.drew _).trans E1843.mono)
  have f1899 := f1785.mono ((Mono.drew _).trans E1843.mono)
  have f1900 := f1786.mono ((Mono.drew _).trans E1843.mono)
  have f1901 := f1787.mono ((Mono.drew _).trans E1843.mono)
  have f1902 := f1788.mono ((Mono.drew _).trans E1843.mono)
  have f1903 := f1789.mono ((Mono.drew _).trans E1843.mono)
  have f1904 := f1790.mono ((Mono.drew _).trans E1843.mono)
  have f1905 := f1791.mono ((Mono.drew _).trans E1843.mono)
  have f1906 := f1792.mono ((Mono.drew _).trans E1843.mono)
  have f1907 := f1793.mono ((Mono.drew _).trans E1843.mono)
  have f1908 := f1794.mono ((Mono.drew _).trans E1843.mono)
  have f1909 := f1795.mono ((Mono.drew _).trans E1843.mono)
  have f1910 := f1796.mono ((Mono.drew _).trans E1843.mono)
  have f1911 := f1797.mono ((Mono.drew _).trans E1843.mono)
  have f1912 := f1798.mono ((Mono.drew _).trans E1843.mono)
  have f1913 := f1799.mono ((Mono.drew _).trans E1843.mono)
  have f1914 := f1800.mono ((Mono.drew _).trans E1843.mono)
  have f1915 := f1801.mono ((Mono.drew _).trans E1843.mono)
  have f1916 := f1802.mono ((Mono.drew _).trans E1843.mono)
  have f1917 := f1803.mono ((Mono.drew _).trans E1843.mono)
  have f1918 := f1804.mono ((Mono.drew _).trans E1843.mono)
  have f1919 := f1805.mono ((Mono.drew _).trans E1843.mono)
  have f1920 := f1806.mono ((Mono.drew _).trans E1843.mono)
  have f1921 := f1807.mono ((Mono.drew _).trans E1843.mono)
  have f1922 := f1808.mono ((Mono.drew _).trans E1843.mono)
  have f1923 := f1809.mono ((Mono.drew _).trans E1843.mono)
  have f1924 := f1810.mono ((Mono.drew _).trans E1843.mono)
  have f1925 := f1811.mono ((Mono.drew _).trans E1843.mono)
  have f1926 := f1812.mono ((Mono.drew _).trans E1843.mono)
  have f1927 := f1813.mono ((Mono.drew _).trans E1843.mono)
  have f1928 := f1814.mono ((Mono.drew _).trans E1843.mono)
  have f1929 := f1815.mono ((Mono.drew _).trans E1843.mono)
  have f1930 := f1816.mono ((Mono.drew _).trans E1843.mono)
  have f1931 := f1817.mono ((Mono.drew _).trans E1843.mono)
  have f1932 := f1842.mono ((Mono.drew _).trans E1843.mono)
  have e1933 : g1843 0 = (.int .i64 0) := E1843.facts 0 (by decide)
  have e1934 : g1843 1 = (.bool true) := E1843.facts 1 (by decide)
  have e1935 : g1843 2 = (.bool true) := E1843.facts 2 (by decide)
  have e1936 : g1843 3 = (.int .i64 0) := E1843.facts 3 (by decide)
  have e1937 : g1843 4 = (.bool true) := E1843.facts 4 (by decide)
  have e1938 : g1843 5 = (.bool true) := E1843.facts 5 (by decide)
  have e1939 : g1843 6 = (.bool true) := E1843.facts 6 (by decide)
  have f1940 : Cz v1843 (g1843 7) (bezX a b) := E1843.facts 7 (by decide)
  have e1941 : g1843 8 = (.int .i64 (bezX a b).sign) := E1843.facts 8 (by decide)
  have e1942 : g1843 9 = (.bool true) := E1843.facts 9 (by decide)
  have e1943 : g1843 10 = (.bool true) := E1843.facts 10 (by decide)
  have e1944 : g1843 11 = (.bool true) := E1843.facts 11 (by decide)
  have f1945 : Cz v1843 (g1843 12) (bezX a b) := E1843.facts 12 (by decide)
  have f1946 : Cz v1843 (g1843 13) (Int.gcd a b : Int) := E1843.facts 13 (by decide)
  have f1947 : Cz v1843 (g1843 14) ((bezX a b) * (Int.gcd a b : Int)) := E1843.facts 14 (by decide)
  have f1948 : Az 1048576 v1843 (g1843 15) b := E1843.facts 15 (by decide)
  have f1949 : Cz v1843 (g1843 16) (b.natAbs : Int) := E1843.facts 16 (by decide)
  have e1950 : g1843 17 = (.int .i64 (((bezX a b) * (Int.gcd a b : Int)) - (b.natAbs : Int)).sign) := E1843.facts 17 (by decide)
  have e1951 : g1843 18 = (.bool true) := E1843.facts 18 (by decide)
  have e1952 : g1843 19 = (.bool true) := E1843.facts 19 (by decide)
  have e1953 : g1843 20 = (.bool true) := E1843.facts 20 (by decide)
  refine then_normal ?_
  refine wp_ret ?_
  exact bodyPost_ret (results_tmp (t := 4) rfl _ _ _) rfl ⟨_, rfl, e1953, T1844⟩

set_option maxHeartbeats 4000000 in
set_option maxRecDepth 8000 in
theorem zr_z {w : World} {x0 : Value} {a : Int} (h0 : Az 1048576 w x0 a) {y0 : Value} {b : Int} (h1 : Az 1048576 w y0 b) (hu : b = 0) (d0 : (b.sign == 0) = true)  : Calls Try.prog 8 #[x0, y0] w (Ret (.is (.bool true)) w) := by
  have la0 := h0.len
  obtain ⟨na0, A0, n0, c0, M0, rfl, hm0, hz0⟩ := h0.parts
  have la1 := h1.len
  obtain ⟨na1, A1, n1, c1, M1, rfl, hm1, hz1⟩ := h1.parts
  have T0 : Below w.heap.size w w := Below.refl _ _
  go_enter Try.func8, Try.ntmps8
  refine wp_seq ?_
  have HB : w.heap.size ≤ w.heap.size := T0.size
  refine wp_plan_seq [.new 2 (some (24, #[.bool na0, .slice A0 n0 c0])), .new 2 (some (24, #[.bool na1, .slice A1 n1 c1])), .val (.is (.bool false))] [] [] w.heap.size (by kernel_rfl) (by kernel_rfl) trivial HB ?_ ?_
  · exact ⟨fun s v h => does_new rfl rfl (x_box_z (h.same 0 rfl)) (okz _ _ _ _) rfl (.inr rfl),
      fun s v h => does_new rfl rfl (x_box_z (h.same 1 rfl)) (okz _ _ _ _) rfl (.inr rfl),
      fun s v h => does_val rfl rfl (x_assign) rfl, trivial⟩
  intro g1954 ts v1954 hts E1954
  simp only [fillL, Nat.reduceAdd, List.setIfInBounds_toArray, List.set_cons_zero, List.set_cons_succ] at hts
  subst hts
  have T1955 : Below w.heap.size w v1954 := T0.trans E1954.below
  have f1956 := h0.mono E1954.mono
  have f1957 := hm0.mono E1954.mono
  have f1958 := h1.mono E1954.mono
  have f1959 := hm1.mono E1954.mono
  have e1960 : g1954 2 = (.bool false) := E1954.facts 2 (by decide)
  obtain ⟨q1961, p1962, l1963, o1964, b1965⟩ : ∃ q, g1954 0 = .pointer (some ⟨q, 0, none⟩) ∧ w.heap.size ≤ q ∧ OkB v1954 q 2 ∧ Bx v1954 q 24 #[.bool na0, .slice A0 n0 c0] := E1954.facts 0 (by decide)
  have h1966 : w.heap.size ≤ q1961 := Nat.le_trans HB l1963
  obtain ⟨q1967, p1968, l1969, o1970, b1971⟩ : ∃ q, g1954 1 = .pointer (some ⟨q, 0, none⟩) ∧ w.heap.size ≤ q ∧ OkB v1954 q 2 ∧ Bx v1954 q 24 #[.bool na1, .slice A1 n1 c1] := E1954.facts 1 (by decide)
  have h1972 : w.heap.size ≤ q1967 := Nat.le_trans HB l1969
  have n1973 : q1961 ≠ q1967 := apart_ne (E1954.apart 0 1 (by decide) (by decide) (by decide) ⟨_, _, rfl⟩ ⟨_, _, rfl⟩) p1962 p1968
  refine then_normal ?_
  refine wp_seq ?_
  refine wp_seq ?_
  have HB : w.heap.size ≤ v1954.heap.size := T1955.size
  refine wp_plan_seq [.val (.is (.bool true)), .val (.is (.bool false))] [] [] w.heap.size (by kernel_rfl) (by kernel_rfl) trivial HB ?_ ?_
  · exact ⟨fun s v h => does_call rfl rfl (x_call0 Try.call11) (alive_k),
      fun s v h => does_val rfl rfl (x_not (h.dep 0 rfl)) rfl, trivial⟩
  intro g1974 ts v1974 hts E1974
  simp only [fillL, Nat.reduceAdd, List.setIfInBounds_toArray, List.set_cons_zero, List.set_cons_succ] at hts
  subst hts
  have T1975 : Below w.heap.size w v1974 := T1955.trans E1974.below
  have l1976 : q1961 < v1954.heap.size := b1965.lt
  have l1977 : q1967 < v1954.heap.size := b1971.lt
  have b1978 : Bx v1974 q1961 24 #[.bool na0, .slice A0 n0 c0] := (E1974.far q1961 b1965.lt (by simp)).trans b1965
  have b1979 : Bx v1974 q1967 24 #[.bool na1, .slice A1 n1 c1] := (E1974.far q1967 b1971.lt (by simp)).trans b1971
  have f1980 := f1956.mono E1974.mono
  have f1981 := f1957.mono E1974.mono
  have f1982 := f1958.mono E1974.mono
  have f1983 := f1959.mono E1974.mono
  have e1984 : g1974 0 = (.bool true) := E1974.facts 0 (by decide)
  have e1985 : g1974 1 = (.bool false) := E1974.facts 1 (by decide)
  refine then_normal ?_
  refine wp_cond_false e1985 ?_
  refine wp_skip ?_
  refine then_normal ?_
  refine wp_seq ?_
  have HB : w.heap.size ≤ v1974.heap.size := T1975.size
  refine wp_plan_seq [.val (.az 1048576 a), .val (.az 1048576 b), .val (.tup3 (.cz 0) (.cz 0) (.is (.int .i64 11))), .val (.tup3 (.cz 0) (.cz 0) (.is (.int .i64 11))), .val (.cz 0), .val (.cz 0), .val (.is (.int .i64 11)), .new 2 none, .new 2 none, .put 5 24, .put 6 25, .val (.is (.int .i64 11))] [] [] w.heap.size (by kernel_rfl) (by kernel_rfl) trivial HB ?_ ?_
  · exact ⟨fun s v h => does_val rfl rfl (x_load_z ((h.same 2 rfl).trans p1962) ((h.far q1961 b1978.lt (by simp)).trans b1978)) (f1980.mono h.mono),
      fun s v h => does_val rfl rfl (x_load_z ((h.same 3 rfl).trans p1968) ((h.far q1967 b1979.lt (by simp)).trans b1979)) (f1982.mono h.mono),
      fun s v h => does_call rfl rfl (x_call2 Try.call24) (zfloor0_k (h.dep 0 rfl) (h.dep 1 rfl) hu),
      fun s v h => does_val rfl rfl (x_move) (h.dep 2 rfl),
      fun s v h => by obtain ⟨r0, r1, r2, e, f0, f1, f2⟩ := tup3_at (h.dep 3 rfl); exact does_val rfl rfl (x_ext e rfl) f0,
      fun s v h => by obtain ⟨r0, r1, r2, e, f0, f1, f2⟩ := tup3_at (h.dep 3 rfl); exact does_val rfl rfl (x_ext e rfl) f1,
      fun s v h => by obtain ⟨r0, r1, r2, e, f0, f1, f2⟩ := tup3_at (h.dep 3 rfl); exact does_val rfl rfl (x_ext e rfl) f2,
      fun s v h => does_new rfl rfl x_alloc_z (okz _ _ _ _) rfl (.inl rfl),
      fun s v h => does_new rfl rfl x_alloc_z (okz _ _ _ _) rfl (.inl rfl),
      fun s v h => by obtain ⟨q, e1, e2, e3⟩ := new_at (h.dep 7 rfl); exact does_put_z rfl rfl e1 (h.dep 4 rfl).shape e3 (Nat.le_trans HB e2),
      fun s v h => by obtain ⟨q, e1, e2, e3⟩ := new_at (h.dep 8 rfl); exact does_put_z rfl rfl e1 (h.dep 5 rfl).shape e3 (Nat.le_trans HB e2),
      fun s v h => does_val rfl rfl (x_assign) (h.dep 6 rfl), trivial⟩
  intro g1986 ts v1986 hts E1986
  simp only [fillL, Nat.reduceAdd, List.setIfInBounds_toArray, List.set_cons_zero, List.set_cons_succ] at hts
  subst hts
  have T1987 : Below w.heap.size w v1986 := T1975.trans E1986.below
  have l1988 : q1961 < v1974.heap.size := b1978.lt
  have l1989 : q1967 < v1974.heap.size := b1979.lt
  have b1990 : Bx v1986 q1961 24 #[.bool na0, .slice A0 n0 c0] := (E1986.far q1961 b1978.lt (by simp)).trans b1978
  have b1991 : Bx v1986 q1967 24 #[.bool na1, .slice A1 n1 c1] := (E1986.far q1967 b1979.lt (by simp)).trans b1979
  have f1992 := f1980.mono E1986.mono
  have f1993 := f1981.mono E1986.mono
  have f1994 := f1982.mono E1986.mono
  have f1995 := f1983.mono E1986.mono
  have f1996 : Az 1048576 v1986 (g1986 0) a := E1986.facts 0 (by decide)
  have f1997 : Az 1048576 v1986 (g1986 1) b := E1986.facts 1 (by decide)
  have f1998 : Cz v1986 (g1986 4) 0 := E1986.facts 4 (by decide)
  have f1999 : Cz v1986 (g1986 5) 0 := E1986.facts 5 (by decide)
  have e2000 : g1986 6 = (.int .i64 11) := E1986.facts 6 (by decide)
  have e2001 : g1986 11 = (.int .i64 11) := E1986.facts 11 (by decide)
  obtain ⟨q2002, p2003, l2004, o2005⟩ : ∃ q, g1986 7 = .pointer (some ⟨q, 0, none⟩) ∧ v1974.heap.size ≤ q ∧ OkB v1986 q 2 := E1986.facts 7 (by decide)
  have h2006 : w.heap.size ≤ q2002 := Nat.le_trans HB l2004
  have n2007 : q1961 ≠ q2002 := by omega
  have n2008 : q1967 ≠ q2002 := by omega
  obtain ⟨q2009, p2010, l2011, o2012⟩ : ∃ q, g1986 8 = .pointer (some ⟨q, 0, none⟩) ∧ v1974.heap.size ≤ q ∧ OkB v1986 q 2 := E1986.facts 8 (by decide)
  have h2013 : w.heap.size ≤ q2009 := Nat.le_trans HB l2011
  have n2014 : q1961 ≠ q2009 := by omega
  have n2015 : q1967 ≠ q2009 := by omega
  have n2016 : q2002 ≠ q2009 := apart_ne (E1986.apart 7 8 (by decide) (by decide) (by decide) ⟨_, _, rfl⟩ ⟨_, _, rfl⟩) p2003 p2010
  obtain ⟨t2017, x2019, A2020, m2021, c2022, e2023, b2018⟩ := put_info (E1986.facts 9 (by decide)) p2003 f1998.shape
  have f2024 : Cz v1986 (.agg #[.bool x2019, .slice A2020 m2021 c2022]) 0 := f1998.at e2023.symm
  obtain ⟨t2025, x2027, A2028, m2029, c2030, e2031, b2026⟩ := put_info (E1986.facts 10 (by decide)) p2010 f1999.shape
  have f2032 : Cz v1986 (.agg #[.bool x2027, .slice A2028 m2029 c2030]) 0 := f1999.at e2031.symm
  refine then_normal ?_
  refine wp_seq ?_
  have HB : w.heap.size ≤ v1986.heap.size := T1987.size
  refine wp_plan_seq [.val (.az 1048576 a), .val (.az 1048576 b), .val (.tup2 (.cz 0) (.is (.int .i64 11))), .val (.tup2 (.cz 0) (.is (.int .i64 11))), .val (.cz 0), .val (.is (.int .i64 11)), .new 2 none, .put 8 31, .val (.is (.int .i64 11))] [] [] w.heap.size (by kernel_rfl) (by kernel_rfl) trivial HB ?_ ?_
  · exact ⟨fun s v h => does_val rfl rfl (x_load_z ((h.same 2 rfl).trans p1962) ((h.far q1961 b1990.lt (by simp)).trans b1990)) (f1992.mono h.mono),
      fun s v h => does_val rfl rfl (x_load_z ((h.same 3 rfl).trans p1968) ((h.far q1967 b1991.lt (by simp)).trans b1991)) (f1994.mono h.mono),
      fun s v h => does_call rfl rfl (x_call2 Try.call25) (znear0_k (h.dep 0 rfl) (h.dep 1 rfl) (by omega) (by omega) (by omega)),
      fun s v h => does_val rfl rfl (x_move) (h.dep 2 rfl),
      fun s v h => by obtain ⟨r0, r1, e, f0, f1⟩ := tup2_at (h.dep 3 rfl); exact does_val rfl rfl (x_ext e rfl) f0,
      fun s v h => by obtain ⟨r0, r1, e, f0, f1⟩ := tup2_at (h.dep 3 rfl); exact does_val rfl rfl (x_ext e rfl) f1,
      fun s v h => does_new rfl rfl x_alloc_z (okz _ _ _ _) rfl (.inl rfl),
      fun s v h => by obtain ⟨q, e1, e2, e3⟩ := new_at (h.dep 6 rfl); exact does_put_z rfl rfl e1 (h.dep 4 rfl).shape e3 (Nat.le_trans HB e2),
      fun s v h => does_val rfl rfl (x_assign) (h.dep 5 rfl), trivial⟩
  intro g2033 ts v2033 hts E2033
  simp only [fillL, Nat.reduceAdd, List.setIfInBounds_toArray, List.set_cons_zero, List.set_cons_succ] at hts
  subst hts
  have T2034 : Below w.heap.size w v2033 := T1987.trans E2033.below
  have l2035 : q1961 < v1986.heap.size := b1990.lt
  have l2036 : q1967 < v1986.heap.size := b1991.lt
  have l2037 : q2002 < v1986.heap.size := b2018.lt
  have l2038 : q2009 < v1986.heap.size := b2026.lt
  have b2039 : Bx v2033 q1961 24 #[.bool na0, .slice A0 n0 c0] := (E2033.far q1961 b1990.lt (by simp)).trans b1990
  have b2040 : Bx v2033 q1967 24 #[.bool na1, .slice A1 n1 c1] := (E2033.far q1967 b1991.lt (by simp)).trans b1991
  have b2041 : Bx v2033 q2002 t2017 #[.bool x2019, .slice A2020 m2021 c2022] := (E2033.far q2002 b2018.lt (by simp)).trans b2018
  have b2042 : Bx v2033 q2009 t2025 #[.bool x2027, .slice A2028 m2029 c2030] := (E2033.far q2009 b2026.lt (by simp)).trans b2026
  have f2043 := f1992.mono E2033.mono
  have f2044 := f1993.mono E2033.mono
  have f2045 := f1994.mono E2033.mono
  have f2046 := f1995.mono E2033.mono
  have f2047 := f1996.mono E2033.mono
  have f2048 := f1997.mono E2033.mono
  have f2049 := f1998.mono E2033.mono
  have f2050 := f1999.mono E2033.mono
  have f2051 := f2024.mono E2033.mono
  have f2052 := f2032.mono E2033.mono
  have f2053 : Az 1048576 v2033 (g2033 0) a := E2033.facts 0 (by decide)
  have f2054 : Az 1048576 v2033 (g2033 1) b := E2033.facts 1 (by decide)
  have f2055 : Cz v2033 (g2033 4) 0 := E2033.facts 4 (by decide)
  have e2056 : g2033 5 = (.int .i64 11) := E2033.facts 5 (by decide)
  have e2057 : g2033 8 = (.int .i64 11) := E2033.facts 8 (by decide)
  obtain ⟨q2058, p2059, l2060, o2061⟩ : ∃ q, g2033 6 = .pointer (some ⟨q, 0, none⟩) ∧ v1986.heap.size ≤ q ∧ OkB v2033 q 2 := E2033.facts 6 (by decide)
  have h2062 : w.heap.size ≤ q2058 := Nat.le_trans HB l2060
  have n2063 : q1961 ≠ q2058 := by omega
  have n2064 : q1967 ≠ q2058 := by omega
  have n2065 : q2002 ≠ q2058 := by omega
  have n2066 : q2009 ≠ q2058 := by omega
  obtain ⟨t2067, x2069, A2070, m2071, c2072, e2073, b2068⟩ := put_info (E2033.facts 7 (by decide)) p2059 f2055.shape
  have f2074 : Cz v2033 (.agg #[.bool x2069, .slice A2070 m2071 c2072]) 0 := f2055.at e2073.symm
  refine then_normal ?_
  refine wp_seq ?_
  refine wp_seq ?_
  have HB : w.heap.size ≤ v2033.heap.size := T2034.size
  refine wp_plan_seq [.val (.az 1048576 b), .val (.is (.int .i64 b.sign)), .val (.is (.bool true))] [] [] w.heap.size (by kernel_rfl) (by kernel_rfl) trivial HB ?_ ?_
  · exact ⟨fun s v h => does_val rfl rfl (x_load_z ((h.same 3 rfl).trans p1968) ((h.far q1967 b2040.lt (by simp)).trans b2040)) (f2045.mono h.mono),
      fun s v h => does_call rfl rfl (x_call1 Try.call39) (sign_k (h.dep 0 rfl)),
      fun s v h => does_val rfl rfl (x_eql_int (h.dep 1 rfl) rfl) (congrArg Value.bool d0), trivial⟩
  intro g2075 ts v2075 hts E2075
  simp only [fillL, Nat.reduceAdd, List.setIfInBounds_toArray, List.set_cons_zero, List.set_cons_succ] at hts
  subst hts
  have T2076 : Below w.heap.size w v2075 := T2034.trans E2075.below
  have l2077 : q1961 < v2033.heap.size := b2039.lt
  have l2078 : q1967 < v2033.heap.size := b2040.lt
  have l2079 : q2002 < v2033.heap.size := b2041.lt
  have l2080 : q2009 < v2033.heap.size := b2042.lt
  have l2081 : q2058 < v2033.heap.size := b2068.lt
  have b2082 : Bx v2075 q1961 24 #[.bool na0, .slice A0 n0 c0] := (E2075.far q1961 b2039.lt (by simp)).trans b2039
  have b2083 : Bx v2075 q1967 24 #[.bool na1, .slice A1 n1 c1] := (E2075.far q1967 b2040.lt (by simp)).trans b2040
  have b2084 : Bx v2075 q2002 t2017 #[.bool x2019, .slice A2020 m2021 c2022] := (E2075.far q2002 b2041.lt (by simp)).trans b2041
  have b2085 : Bx v2075 q2009 t2025 #[.bool x2027, .slice A2028 m2029 c2030] := (E2075.far q2009 b2042.lt (by simp)).trans b2042
  have b2086 : Bx v2075 q2058 t2067 #[.bool x2069, .slice A2070 m2071 c2072] := (E2075.far q2058 b2068.lt (by simp)).trans b2068
  have f2087 := f2043.mono E2075.mono
  have f2088 := f2044.mono E2075.mono
  have f2089 := f2045.mono E2075.mono
  have f2090 := f2046.mono E2075.mono
  have f2091 := f2047.mono E2075.mono
  have f2092 := f2048.mono E2075.mono
  have f2093 := f2049.mono E2075.mono
  have f2094 := f2050.mono E2075.mono
  have f2095 := f2051.mono E2075.mono
  have f2096 := f2052.mono E2075.mono
  have f2097 := f2053.mono E2075.mono
  have f2098 := f2054.mono E2075.mono
  have f2099 := f2055.mono E2075.mono
  have f2100 := f2074.mono E2075.mono
  have f2101 : Az 1048576 v2075 (g2075 0) b := E2075.facts 0 (by decide)
  have e2102 : g2075 1 = (.int .i64 b.sign) := E2075.facts 1 (by decide)
  have e2103 : g2075 2 = (.bool true) := E2075.facts 2 (by decide)
  refine then_normal ?_
  refine wp_cond_true e2103 ?_
  refine wp_seq ?_
  have HB : w.heap.size ≤ v2075.heap.size := T2076.size
  refine wp_plan_seq [.val (.is (.int .i64 11)), .val (.is (.bool true)), .val (.is (.bool true)), .val (.is (.int .i64 11)), .val (.is (.bool true)), .val (.is (.bool true)), .val (.is (.bool true))] [] [] w.heap.size (by kernel_rfl) (by kernel_rfl) trivial HB ?_ ?_
  · exact ⟨fun s v h => does_val rfl rfl (x_move) ((h.same 7 rfl).trans e2001),
      fun s v h => does_val rfl rfl (x_neq_err (h.dep 0 rfl) rfl) rfl,
      fun s v h => does_val rfl rfl (x_move) (h.dep 1 rfl),
      fun s v h => does_val rfl (wanted_by (b := true) (want := true) rfl rfl (h.dep 2 rfl)) (x_move) ((h.same 9 rfl).trans e2057),
      fun s v h => does_val rfl (wanted_by (b := true) (want := true) rfl rfl (h.dep 2 rfl)) (x_neq_err (h.dep 3 rfl) rfl) rfl,
      fun s v h => does_val rfl rfl (x_pick (h.dep 2 rfl)) (h.dep 4 rfl),
      fun s v h => does_val rfl rfl (x_assign) (h.dep 5 rfl), trivial⟩
  intro g2104 ts v2104 hts E2104
  simp only [fillL, Nat.reduceAdd, List.setIfInBounds_toArray, List.set_cons_zero, List.set_cons_succ] at hts
  subst hts
  have T2105 : Below w.heap.size w v2104 := T2076.trans E2104.below
  have l2106 : q1961 < v2075.heap.size := b2082.lt
  have l2107 : q1967 < v2075.heap.size := b2083.lt
  have l2108 : q2002 < v2075.heap.size := b2084.lt
  have l2109 : q2009 < v2075.heap.size := b2085.lt
  have l2110 : q2058 < v2075.heap.size := b2086.lt
  have b2111 : Bx v2104 q1961 24 #[.bool na0, .slice A0 n0 c0] := (E2104.far q1961 b2082.lt (by simp)).trans b2082
  have b2112 : Bx v2104 q1967 24 #[.bool na1, .slice A1 n1 c1] := (E2104.far q1967 b2083.lt (by simp)).trans b2083
  have b2113 : Bx v2104 q2002 t2017 #[.bool x2019, .slice A2020 m2021 c2022] := (E2104.far q2002 b2084.lt (by simp)).trans b2084
  have b2114 : Bx v2104 q2009 t2025 #[.bool x2027, .slice A2028 m2029 c2030] := (E2104.far q2009 b2085.lt (by simp)).trans b2085
  have b2115 : Bx v2104 q2058 t2067 #[.bool x2069, .slice A2070 m2071 c2072] := (E2104.far q2058 b2086.lt (by simp)).trans b2086
  have f2116 := f2087.mono E2104.mono
  have f2117 := f2088.mono E2104.mono
  have f2118 := f2089.mono E2104.mono
  have f2119 := f2090.mono E2104.mono
  have f2120 := f2091.mono E2104.mono
  have f2121 := f2092.mono E2104.mono
  have f2122 := f2093.mono E2104.mono
  have f2123 := f2094.mono E2104.mono
  have f2124 := f2095.mono E2104.mono
  have f2125 := f2096.mono E2104.mono
  have f2126 := f2097.mono E2104.mono
  have f2127 := f2098.mono E2104.mono
  have f2128 := f2099.mono E2104.mono
  have f2129 := f2100.mono E2104.mono
  have f2130 := f2101.mono E2104.mono
  have e2131 : g2104 0 = (.int .i64 11) := E2104.facts 0 (by decide)
  have e2132 : g2104 1 = (.bool true) := E2104.facts 1 (by decide)
  have e2133 : g2104 2 = (.bool true) := E2104.facts 2 (by decide)
  have e2134 : g2104 3 = (.int .i64 11) := E2104.facts 3 (by decide)
  have e2135 : g2104 4 = (.bool true) := E2104.facts 4 (by decide)
  have e2136 : g2104 5 = (.bool true) := E2104.facts 5 (by decide)
  have e2137 : g2104 6 = (.bool true) := E2104.facts 6 (by decide)
  refine then_normal ?_
  refine wp_ret ?_
  exact bodyPost_ret (results_tmp (t := 4) rfl _ _ _) rfl ⟨_, rfl, e2137, T2105⟩

theorem sg_neg {d : Int} (h : d < 0) : decide (0 ≤ d.sign) = false ∧ decide (d.sign < 0) = true := by
  rw [Int.sign_eq_neg_one_of_neg h]; exact ⟨by decide, by decide⟩
theorem sg_nonpos {d : Int} (h : d ≤ 0) : decide (0 < d.sign) = false := by
  rcases Int.lt_trichotomy d 0 with h1 | h1 | h1
  · rw [Int.sign_eq_neg_one_of_neg h1]; decide
  · rw [h1]; decide
  · omega
theorem sg_pos {d : Int} (h : 0 < d) : decide (d.sign ≤ 0) = false := by
  rw [Int.sign_eq_one_of_pos h]; decide
theorem sg_nonneg {d : Int} (h : 0 ≤ d) : decide (0 ≤ d.sign) = true := by
  have := Int.sign_nonneg_iff.2 h
  simpa using this
theorem zintRests_law (w : World) (x : Value) (a : Int) (y : Value) (b : Int) (h0 : Az 1048576 w x a) (h1 : Az 1048576 w y b) :
    Calls Try.prog 8 #[x, y] w fun e w' => e = .returned (.bool true) ∧ Below w.heap.size w w' := by
  have fin : Calls Try.prog 8 #[x, y] w (Ret (.is (.bool true)) w) := by
    by_cases hu : b = 0
    · exact zr_z h0 h1 hu (sign_eq_zero.2 hu)
    · have d0 : (b.sign == 0) = false := by
        cases h : (b.sign == 0) with
        | false => rfl
        | true => exact absurd (sign_eq_zero.1 h) hu
      have hm := md_range (z := a) hu
      have d3 := (sg_neg (show ((md a b).natAbs : Int) - (b.natAbs : Int) < 0 by omega)).1
      have d4 := sg_nonpos (show 2 * ((fl (a + a + b) (b + b) * b - a).natAbs : Int) - (b.natAbs : Int) ≤ 0 by have := near_off (a := a) hu; omega)
      obtain ⟨x0, x1, _⟩ := bezX_spec (a := a) hu
      have d5 := sg_pos (gcd_pos (a := a) hu)
      have d6 := sg_nonneg x0
      have d7 := (sg_neg (show bezX a b * (Int.gcd a b : Int) - (b.natAbs : Int) < 0 by omega)).2
      cases h : ((md a b).sign == 0) with
      | true => exact zr_a h0 h1 hu d0 h d3 d4 d5 d6 d7
      | false =>
        have hne : md a b ≠ 0 := fun e => by rw [sign_eq_zero.2 e] at h; cases h
        exact zr_b h0 h1 hu d0 h (sign_eq_iff.2 (by omega)) d3 d4 d5 d6 d7
  refine fin.mono fun e w' h => ?_
  obtain ⟨r, e, hr, hB⟩ := h
  have hr : r = .bool true := hr
  exact ⟨by rw [e, hr], hB⟩
end Go.Proofs.Ytkidgeeedigkhaa
