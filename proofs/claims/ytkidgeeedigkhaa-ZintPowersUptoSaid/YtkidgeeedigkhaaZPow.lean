/- The law ZintPowers. -/
import Derived.Test.YtkidgeeedigkhaaYPow
import Derived.Test.YtkidgeeedigkhaaA6
namespace Go.Proofs.Ytkidgeeedigkhaa
open Go.RowKit

theorem two_arg {P : Program} {f : FuncId} {y k m : Value} {v : World} {Q : Ending → World → Prop} (e : k = m) (h : Calls P f #[y, m] v Q) : Calls P f #[y, k] v Q := by
  subst e
  exact h

set_option maxHeartbeats 4000000 in
set_option maxRecDepth 8000 in
theorem zintPowers_walk {w : World} {x : Value} {z n : Int} (h0 : Az 1048576 w x z) {zp zs ep es : Int} (c1 : ∀ (v : World) (y : Value), Az 1048576 v y z → Calls Try.prog 35 #[y, .int .i64 n] v (Ret (.tup2 (.cz zp) (.is (.int .i64 ep))) v)) (c2 : ∀ (v : World) (y : Value), Az 1048576 v y z → Calls Try.prog 36 #[y, .int .i64 n] v (Ret (.tup2 (.cz zp) (.is (.int .i64 ep))) v)) (c3 : ∀ (v : World) (y : Value), Az 1048576 v y z → Calls Try.prog 37 #[y, .int .i64 n] v (Ret (.tup2 (.cz zs) (.is (.int .i64 es))) v)) (c4 : ∀ (v : World) (y : Value), Az 1048576 v y z → Calls Try.prog 38 #[y, .int .i64 n] v (Ret (.tup2 (.cz zs) (.is (.int .i64 es))) v))  : Calls Try.prog 7 #[x, .int .i64 n] w (Ret (.is (.bool true)) w) := by
  have la0 := h0.len
  obtain ⟨na0, A0, n0, c0, M0, rfl, hm0, hz0⟩ := h0.parts
  have T0 : Below w.heap.size w w := Below.refl _ _
  go_enter Try.func7, Try.ntmps7
  refine wp_seq ?_
  have HB : w.heap.size ≤ w.heap.size := T0.size
  refine wp_plan_seq [.new 2 (some (24, #[.bool na0, .slice A0 n0 c0])), .val (.is (.bool false))] [] [] w.heap.size (by kernel_rfl) (by kernel_rfl) trivial HB ?_ ?_
  · exact ⟨fun s v h => does_new rfl rfl (x_box_z (h.same 0 rfl)) (okz _ _ _ _) rfl (.inr rfl),
      fun s v h => does_val rfl rfl (x_assign) rfl, trivial⟩
  intro g2157 ts v2157 hts E2157
  simp only [fillL, Nat.reduceAdd, List.setIfInBounds_toArray, List.set_cons_zero, List.set_cons_succ] at hts
  subst hts
  have T2158 : Below w.heap.size w v2157 := T0.trans E2157.below
  have f2159 := h0.mono E2157.mono
  have f2160 := hm0.mono E2157.mono
  have e2161 : g2157 1 = (.bool false) := E2157.facts 1 (by decide)
  obtain ⟨q2162, p2163, l2164, o2165, b2166⟩ : ∃ q, g2157 0 = .pointer (some ⟨q, 0, none⟩) ∧ w.heap.size ≤ q ∧ OkB v2157 q 2 ∧ Bx v2157 q 24 #[.bool na0, .slice A0 n0 c0] := E2157.facts 0 (by decide)
  have h2167 : w.heap.size ≤ q2162 := Nat.le_trans HB l2164
  refine then_normal ?_
  refine wp_seq ?_
  have HB : w.heap.size ≤ v2157.heap.size := T2158.size
  refine wp_plan_seq [.val (.az 1048576 z), .val (.az 1048576 z), .val (.is (.int .i64 n)), .val (.tup2 (.cz zp) (.is (.int .i64 ep))), .val (.tup2 (.cz zp) (.is (.int .i64 ep))), .val (.cz zp), .val (.is (.int .i64 ep)), .new 2 none, .put 5 14, .val (.is (.int .i64 ep))] [] [] w.heap.size (by kernel_rfl) (by kernel_rfl) trivial HB ?_ ?_
  · exact ⟨fun s v h => does_val rfl rfl (x_load_z ((h.same 2 rfl).trans p2163) ((h.far q2162 b2166.lt (by simp)).trans b2166)) (f2159.mono h.mono),
      fun s v h => does_call rfl rfl (x_call1 Try.call18) (own_k (h.dep 0 rfl) (by omega)),
      fun s v h => does_val rfl rfl (x_move) (h.same 1 rfl),
      fun s v h => does_call rfl rfl (x_call2 Try.call35) (two_arg (h.dep 2 rfl) (c1 _ _ (h.dep 1 rfl))),
      fun s v h => does_val rfl rfl (x_move) (h.dep 3 rfl),
      fun s v h => by obtain ⟨r0, r1, e, f0, f1⟩ := tup2_at (h.dep 4 rfl); exact does_val rfl rfl (x_ext e rfl) f0,
      fun s v h => by obtain ⟨r0, r1, e, f0, f1⟩ := tup2_at (h.dep 4 rfl); exact does_val rfl rfl (x_ext e rfl) f1,
      fun s v h => does_new rfl rfl x_alloc_z (okz _ _ _ _) rfl (.inl rfl),
      fun s v h => by obtain ⟨q, e1, e2, e3⟩ := new_at (h.dep 7 rfl); exact does_put_z rfl rfl e1 (h.dep 5 rfl).shape e3 (Nat.le_trans HB e2),
      fun s v h => does_val rfl rfl (x_assign) (h.dep 6 rfl), trivial⟩
  intro g2168 ts v2168 hts E2168
  simp only [fillL, Nat.reduceAdd, List.setIfInBounds_toArray, List.set_cons_zero, List.set_cons_succ] at hts
  subst hts
  have T2169 : Below w.heap.size w v2168 := T2158.trans E2168.below
  have l2170 : q2162 < v2157.heap.size := b2166.lt
  have b2171 : Bx v2168 q2162 24 #[.bool na0, .slice A0 n0 c0] := (E2168.far q2162 b2166.lt (by simp)).trans b2166
  have f2172 := f2159.mono E2168.mono
  have f2173 := f2160.mono E2168.mono
  have f2174 : Az 1048576 v2168 (g2168 0) z := E2168.facts 0 (by decide)
  have f2175 : Az 1048576 v2168 (g2168 1) z := E2168.facts 1 (by decide)
  have e2176 : g2168 2 = (.int .i64 n) := E2168.facts 2 (by decide)
  have f2177 : Cz v2168 (g2168 5) zp := E2168.facts 5 (by decide)
  have e2178 : g2168 6 = (.int .i64 ep) := E2168.facts 6 (by decide)
  have e2179 : g2168 9 = (.int .i64 ep) := E2168.facts 9 (by decide)
  obtain ⟨q2180, p2181, l2182, o2183⟩ : ∃ q, g2168 7 = .pointer (some ⟨q, 0, none⟩) ∧ v2157.heap.size ≤ q ∧ OkB v2168 q 2 := E2168.facts 7 (by decide)
  have h2184 : w.heap.size ≤ q2180 := Nat.le_trans HB l2182
  have n2185 : q2162 ≠ q2180 := by omega
  obtain ⟨t2186, x2188, A2189, m2190, c2191, e2192, b2187⟩ := put_info (E2168.facts 8 (by decide)) p2181 f2177.shape
  have f2193 : Cz v2168 (.agg #[.bool x2188, .slice A2189 m2190 c2191]) zp := f2177.at e2192.symm
  refine then_normal ?_
  refine wp_seq ?_
  have HB : w.heap.size ≤ v2168.heap.size := T2169.size
  refine wp_plan_seq [.val (.az 1048576 z), .val (.is (.int .i64 n)), .val (.tup2 (.cz zp) (.is (.int .i64 ep))), .val (.tup2 (.cz zp) (.is (.int .i64 ep))), .val (.cz zp), .val (.is (.int .i64 ep)), .new 2 none, .put 7 20, .val (.is (.int .i64 ep))] [] [] w.heap.size (by kernel_rfl) (by kernel_rfl) trivial HB ?_ ?_
  · exact ⟨fun s v h => does_val rfl rfl (x_load_z ((h.same 2 rfl).trans p2163) ((h.far q2162 b2171.lt (by simp)).trans b2171)) (f2172.mono h.mono),
      fun s v h => does_val rfl rfl (x_move) (h.same 1 rfl),
      fun s v h => does_call rfl rfl (x_call2 Try.call36) (two_arg (h.dep 1 rfl) (c2 _ _ (h.dep 0 rfl))),
      fun s v h => does_val rfl rfl (x_move) (h.dep 2 rfl),
      fun s v h => by obtain ⟨r0, r1, e, f0, f1⟩ := tup2_at (h.dep 3 rfl); exact does_val rfl rfl (x_ext e rfl) f0,
      fun s v h => by obtain ⟨r0, r1, e, f0, f1⟩ := tup2_at (h.dep 3 rfl); exact does_val rfl rfl (x_ext e rfl) f1,
      fun s v h => does_new rfl rfl x_alloc_z (okz _ _ _ _) rfl (.inl rfl),
      fun s v h => by obtain ⟨q, e1, e2, e3⟩ := new_at (h.dep 6 rfl); exact does_put_z rfl rfl e1 (h.dep 4 rfl).shape e3 (Nat.le_trans HB e2),
      fun s v h => does_val rfl rfl (x_assign) (h.dep 5 rfl), trivial⟩
  intro g2194 ts v2194 hts E2194
  simp only [fillL, Nat.reduceAdd, List.setIfInBounds_toArray, List.set_cons_zero, List.set_cons_succ] at hts
  subst hts
  have T2195 : Below w.heap.size w v2194 := T2169.trans E2194.below
  have l2196 : q2162 < v2168.heap.size := b2171.lt
  have l2197 : q2180 < v2168.heap.size := b2187.lt
  have b2198 : Bx v2194 q2162 24 #[.bool na0, .slice A0 n0 c0] := (E2194.far q2162 b2171.lt (by simp)).trans b2171
  have b2199 : Bx v2194 q2180 t2186 #[.bool x2188, .slice A2189 m2190 c2191] := (E2194.far q2180 b2187.lt (by simp)).trans b2187
  have f2200 := f2172.mono E2194.mono
  have f2201 := f2173.mono E2194.mono
  have f2202 := f2174.mono E2194.mono
  have f2203 := f2175.mono E2194.mono
  have f2204 := f2177.mono E2194.mono
  have f2205 := f2193.mono E2194.mono
  have f2206 : Az 1048576 v2194 (g2194 0) z := E2194.facts 0 (by decide)
  have e2207 : g2194 1 = (.int .i64 n) := E2194.facts 1 (by decide)
  have f2208 : Cz v2194 (g2194 4) zp := E2194.facts 4 (by decide)
  have e2209 : g2194 5 = (.int .i64 ep) := E2194.facts 5 (by decide)
  have e2210 : g2194 8 = (.int .i64 ep) := E2194.facts 8 (by decide)
  obtain ⟨q2211, p2212, l2213, o2214⟩ : ∃ q, g2194 6 = .pointer (some ⟨q, 0, none⟩) ∧ v2168.heap.size ≤ q ∧ OkB v2194 q 2 := E2194.facts 6 (by decide)
  have h2215 : w.heap.size ≤ q2211 := Nat.le_trans HB l2213
  have n2216 : q2162 ≠ q2211 := by omega
  have n2217 : q2180 ≠ q2211 := by omega
  obtain ⟨t2218, x2220, A2221, m2222, c2223, e2224, b2219⟩ := put_info (E2194.facts 7 (by decide)) p2212 f2208.shape
  have f2225 : Cz v2194 (.agg #[.bool x2220, .slice A2221 m2222 c2223]) zp := f2208.at e2224.symm
  refine then_normal ?_
  refine wp_seq ?_
  refine wp_seq ?_
  have HB : w.heap.size ≤ v2194.heap.size := T2195.size
  refine wp_plan_seq [.val (.is (.int .i64 ep)), .val (.is (.int .i64 ep)), .val (.is (.bool false)), .val (.is (.bool false)), .val (.cz zp), .val (.cz zp), .val (.is (.bool true)), .val (.is (.bool false)), .val (.is (.bool false))] [] [] w.heap.size (by kernel_rfl) (by kernel_rfl) trivial HB ?_ ?_
  · exact ⟨fun s v h => does_val rfl rfl (x_move) ((h.same 6 rfl).trans e2179),
      fun s v h => does_val rfl rfl (x_move) ((h.same 8 rfl).trans e2210),
      fun s v h => does_val rfl rfl (x_neq_int (h.dep 0 rfl) (h.dep 1 rfl)) (by show _ = _; simp),
      fun s v h => does_val rfl rfl (x_move) (h.dep 2 rfl),
      fun s v h => does_val rfl (wanted_by (b := false) (want := false) rfl rfl (h.dep 3 rfl)) (x_load_z ((h.same 5 rfl).trans p2181) ((h.far q2180 b2199.lt (by simp)).trans b2199)) (f2205.mono h.mono),
      fun s v h => does_val rfl (wanted_by (b := false) (want := false) rfl rfl (h.dep 3 rfl)) (x_load_z ((h.same 7 rfl).trans p2212) ((h.far q2211 b2219.lt (by simp)).trans b2219)) (f2225.mono h.mono),
      fun s v h => does_call rfl (wanted_by (b := false) (want := false) rfl rfl (h.dep 3 rfl)) (x_call2 Try.call12) (eq_k (h.dep 4 rfl) (h.dep 5 rfl) rfl),
      fun s v h => does_val rfl (wanted_by (b := false) (want := false) rfl rfl (h.dep 3 rfl)) (x_not (h.dep 6 rfl)) rfl,
      fun s v h => does_val rfl rfl (x_pick (h.dep 3 rfl)) (h.dep 7 rfl), trivial⟩
  intro g2226 ts v2226 hts E2226
  simp only [fillL, Nat.reduceAdd, List.setIfInBounds_toArray, List.set_cons_zero, List.set_cons_succ] at hts
  subst hts
  have T2227 : Below w.heap.size w v2226 := T2195.trans E2226.below
  have l2228 : q2162 < v2194.heap.size := b2198.lt
  have l2229 : q2180 < v2194.heap.size := b2199.lt
  have l2230 : q2211 < v2194.heap.size := b2219.lt
  have b2231 : Bx v2226 q2162 24 #[.bool na0, .slice A0 n0 c0] := (E2226.far q2162 b2198.lt (by simp)).trans b2198
  have b2232 : Bx v2226 q2180 t2186 #[.bool x2188, .slice A2189 m2190 c2191] := (E2226.far q2180 b2199.lt (by simp)).trans b2199
  have b2233 : Bx v2226 q2211 t2218 #[.bool x2220, .slice A2221 m2222 c2223] := (E2226.far q2211 b2219.lt (by simp)).trans b2219
  have f2234 := f2200.mono E2226.mono
  have f2235 := f2201.mono E2226.mono
  have f2236 := f2202.mono E2226.mono
  have f2237 := f2203.mono E2226.mono
  have f2238 := f2204.mono E2226.mono
  have f2239 := f2205.mono E2226.mono
  have f2240 := f2206.mono E2226.mono
  have f2241 := f2208.mono E2226.mono
  have f2242 := f2225.mono E2226.mono
  have e2243 : g2226 0 = (.int .i64 ep) := E2226.facts 0 (by decide)
  have e2244 : g2226 1 = (.int .i64 ep) := E2226.facts 1 (by decide)
  have e2245 : g2226 2 = (.bool false) := E2226.facts 2 (by decide)
  have e2246 : g2226 3 = (.bool false) := E2226.facts 3 (by decide)
  have f2247 : Cz v2226 (g2226 4) zp := E2226.facts 4 (by decide)
  have f2248 : Cz v2226 (g2226 5) zp := E2226.facts 5 (by decide)
  have e2249 : g2226 6 = (.bool true) := E2226.facts 6 (by decide)
  have e2250 : g2226 7 = (.bool false) := E2226.facts 7 (by decide)
  have e2251 : g2226 8 = (.bool false) := E2226.facts 8 (by decide)
  refine then_normal ?_
  refine wp_cond_false e2251 ?_
  refine wp_skip ?_
  refine then_normal ?_
  refine wp_seq ?_
  have HB : w.heap.size ≤ v2226.heap.size := T2227.size
  refine wp_plan_seq [.val (.az 1048576 z), .val (.az 1048576 z), .val (.is (.int .i64 n)), .val (.tup2 (.cz zs) (.is (.int .i64 es))), .val (.tup2 (.cz zs) (.is (.int .i64 es))), .val (.cz zs), .val (.is (.int .i64 es)), .put 5 36, .val (.is (.int .i64 es))] [5] [q2180] w.heap.size (by kernel_rfl) (by kernel_rfl) ⟨p2181, b2232.lt, (by simp), trivial⟩ HB ?_ ?_
  · exact ⟨fun s v h => does_val rfl rfl (x_load_z ((h.same 2 rfl).trans p2163) ((h.far q2162 b2231.lt (nin1 n2185)).trans b2231)) (f2234.mono h.mono),
      fun s v h => does_call rfl rfl (x_call1 Try.call18) (own_k (h.dep 0 rfl) (by omega)),
      fun s v h => does_val rfl rfl (x_move) (h.same 1 rfl),
      fun s v h => does_call rfl rfl (x_call2 Try.call37) (two_arg (h.dep 2 rfl) (c3 _ _ (h.dep 1 rfl))),
      fun s v h => does_val rfl rfl (x_move) (h.dep 3 rfl),
      fun s v h => by obtain ⟨r0, r1, e, f0, f1⟩ := tup2_at (h.dep 4 rfl); exact does_val rfl rfl (x_ext e rfl) f0,
      fun s v h => by obtain ⟨r0, r1, e, f0, f1⟩ := tup2_at (h.dep 4 rfl); exact does_val rfl rfl (x_ext e rfl) f1,
      fun s v h => does_put_z rfl rfl ((h.same 5 rfl).trans p2181) (h.dep 5 rfl).shape (h.mono.ok _ _ b2232.ok2) h2184,
      fun s v h => does_val rfl rfl (x_assign) (h.dep 6 rfl), trivial⟩
  intro g2252 ts v2252 hts E2252
  simp only [fillL, Nat.reduceAdd, List.setIfInBounds_toArray, List.set_cons_zero, List.set_cons_succ] at hts
  subst hts
  have T2253 : Below w.heap.size w v2252 := T2227.trans E2252.below
  have l2254 : q2162 < v2226.heap.size := b2231.lt
  have l2255 : q2180 < v2226.heap.size := b2232.lt
  have l2256 : q2211 < v2226.heap.size := b2233.lt
  have b2257 : Bx v2252 q2162 24 #[.bool na0, .slice A0 n0 c0] := (E2252.far q2162 b2231.lt (nin1 n2185)).trans b2231
  have b2258 : Bx v2252 q2211 t2218 #[.bool x2220, .slice A2221 m2222 c2223] := (E2252.far q2211 b2233.lt (nin1 n2217.symm)).trans b2233
  have f2259 := f2234.mono E2252.mono
  have f2260 := f2235.mono E2252.mono
  have f2261 := f2236.mono E2252.mono
  have f2262 := f2237.mono E2252.mono
  have f2263 := f2238.mono E2252.mono
  have f2264 := f2239.mono E2252.mono
  have f2265 := f2240.mono E2252.mono
  have f2266 := f2241.mono E2252.mono
  have f2267 := f2242.mono E2252.mono
  have f2268 := f2247.mono E2252.mono
  have f2269 := f2248.mono E2252.mono
  have f2270 : Az 1048576 v2252 (g2252 0) z := E2252.facts 0 (by decide)
  have f2271 : Az 1048576 v2252 (g2252 1) z := E2252.facts 1 (by decide)
  have e2272 : g2252 2 = (.int .i64 n) := E2252.facts 2 (by decide)
  have f2273 : Cz v2252 (g2252 5) zs := E2252.facts 5 (by decide)
  have e2274 : g2252 6 = (.int .i64 es) := E2252.facts 6 (by decide)
  have e2275 : g2252 8 = (.int .i64 es) := E2252.facts 8 (by decide)
  obtain ⟨t2276, x2278, A2279, m2280, c2281, e2282, b2277⟩ := put_info (E2252.facts 7 (by decide)) p2181 f2273.shape
  have f2283 : Cz v2252 (.agg #[.bool x2278, .slice A2279 m2280 c2281]) zs := f2273.at e2282.symm
  refine then_normal ?_
  refine wp_seq ?_
  have HB : w.heap.size ≤ v2252.heap.size := T2253.size
  refine wp_plan_seq [.val (.az 1048576 z), .val (.is (.int .i64 n)), .val (.tup2 (.cz zs) (.is (.int .i64 es))), .val (.tup2 (.cz zs) (.is (.int .i64 es))), .val (.cz zs), .val (.is (.int .i64 es)), .put 7 42, .val (.is (.int .i64 es))] [7] [q2211] w.heap.size (by kernel_rfl) (by kernel_rfl) ⟨p2212, b2258.lt, (by simp), trivial⟩ HB ?_ ?_
  · exact ⟨fun s v h => does_val rfl rfl (x_load_z ((h.same 2 rfl).trans p2163) ((h.far q2162 b2257.lt (nin1 n2216)).trans b2257)) (f2259.mono h.mono),
      fun s v h => does_val rfl rfl (x_move) (h.same 1 rfl),
      fun s v h => does_call rfl rfl (x_call2 Try.call38) (two_arg (h.dep 1 rfl) (c4 _ _ (h.dep 0 rfl))),
      fun s v h => does_val rfl rfl (x_move) (h.dep 2 rfl),
      fun s v h => by obtain ⟨r0, r1, e, f0, f1⟩ := tup2_at (h.dep 3 rfl); exact does_val rfl rfl (x_ext e rfl) f0,
      fun s v h => by obtain ⟨r0, r1, e, f0, f1⟩ := tup2_at (h.dep 3 rfl); exact does_val rfl rfl (x_ext e rfl) f1,
      fun s v h => does_put_z rfl rfl ((h.same 7 rfl).trans p2212) (h.dep 4 rfl).shape (h.mono.ok _ _ b2258.ok2) h2215,
      fun s v h => does_val rfl rfl (x_assign) (h.dep 5 rfl), trivial⟩
  intro g2284 ts v2284 hts E2284
  simp only [fillL, Nat.reduceAdd, List.setIfInBounds_toArray, List.set_cons_zero, List.set_cons_succ] at hts
  subst hts
  have T2285 : Below w.heap.size w v2284 := T2253.trans E2284.below
  have l2286 : q2162 < v2252.heap.size := b2257.lt
  have l2287 : q2180 < v2252.heap.size := b2277.lt
  have l2288 : q2211 < v2252.heap.size := b2258.lt
  have b2289 : Bx v2284 q2162 24 #[.bool na0, .slice A0 n0 c0] := (E2284.far q2162 b2257.lt (nin1 n2216)).trans b2257
  have b2290 : Bx v2284 q2180 t2276 #[.bool x2278, .slice A2279 m2280 c2281] := (E2284.far q2180 b2277.lt (nin1 n2217)).trans b2277
  have f2291 := f2259.mono E2284.mono
  have f2292 := f2260.mono E2284.mono
  have f2293 := f2261.mono E2284.mono
  have f2294 := f2262.mono E2284.mono
  have f2295 := f2263.mono E2284.mono
  have f2296 := f2264.mono E2284.mono
  have f2297 := f2265.mono E2284.mono
  have f2298 := f2266.mono E2284.mono
  have f2299 := f2267.mono E2284.mono
  have f2300 := f2268.mono E2284.mono
  have f2301 := f2269.mono E2284.mono
  have f2302 := f2270.mono E2284.mono
  have f2303 := f2271.mono E2284.mono
  have f2304 := f2273.mono E2284.mono
  have f2305 := f2283.mono E2284.mono
  have f2306 : Az 1048576 v2284 (g2284 0) z := E2284.facts 0 (by decide)
  have e2307 : g2284 1 = (.int .i64 n) := E2284.facts 1 (by decide)
  have f2308 : Cz v2284 (g2284 4) zs := E2284.facts 4 (by decide)
  have e2309 : g2284 5 = (.int .i64 es) := E2284.facts 5 (by decide)
  have e2310 : g2284 7 = (.int .i64 es) := E2284.facts 7 (by decide)
  obtain ⟨t2311, x2313, A2314, m2315, c2316, e2317, b2312⟩ := put_info (E2284.facts 6 (by decide)) p2212 f2308.shape
  have f2318 : Cz v2284 (.agg #[.bool x2313, .slice A2314 m2315 c2316]) zs := f2308.at e2317.symm
  refine then_normal ?_
  refine wp_seq ?_
  have HB : w.heap.size ≤ v2284.heap.size := T2285.size
  refine wp_plan_seq [.val (.is (.int .i64 es)), .val (.is (.int .i64 es)), .val (.is (.bool true)), .val (.is (.bool true)), .val (.cz zs), .val (.cz zs), .val (.is (.bool true)), .val (.is (.bool true)), .val (.is (.bool true))] [] [] w.heap.size (by kernel_rfl) (by kernel_rfl) trivial HB ?_ ?_
  · exact ⟨fun s v h => does_val rfl rfl (x_move) ((h.same 6 rfl).trans e2275),
      fun s v h => does_val rfl rfl (x_move) ((h.same 8 rfl).trans e2310),
      fun s v h => does_val rfl rfl (x_eql_int (h.dep 0 rfl) (h.dep 1 rfl)) (by show _ = _; simp),
      fun s v h => does_val rfl rfl (x_move) (h.dep 2 rfl),
      fun s v h => does_val rfl (wanted_by (b := true) (want := true) rfl rfl (h.dep 3 rfl)) (x_load_z ((h.same 5 rfl).trans p2181) ((h.far q2180 b2290.lt (by simp)).trans b2290)) (f2305.mono h.mono),
      fun s v h => does_val rfl (wanted_by (b := true) (want := true) rfl rfl (h.dep 3 rfl)) (x_load_z ((h.same 7 rfl).trans p2212) ((h.far q2211 b2312.lt (by simp)).trans b2312)) (f2318.mono h.mono),
      fun s v h => does_call rfl (wanted_by (b := true) (want := true) rfl rfl (h.dep 3 rfl)) (x_call2 Try.call12) (eq_k (h.dep 4 rfl) (h.dep 5 rfl) rfl),
      fun s v h => does_val rfl rfl (x_pick (h.dep 3 rfl)) (h.dep 6 rfl),
      fun s v h => does_val rfl rfl (x_assign) (h.dep 7 rfl), trivial⟩
  intro g2319 ts v2319 hts E2319
  simp only [fillL, Nat.reduceAdd, List.setIfInBounds_toArray, List.set_cons_zero, List.set_cons_succ] at hts
  subst hts
  have T2320 : Below w.heap.size w v2319 := T2285.trans E2319.below
  have l2321 : q2162 < v2284.heap.size := b2289.lt
  have l2322 : q2180 < v2284.heap.size := b2290.lt
  have l2323 : q2211 < v2284.heap.size := b2312.lt
  have b2324 : Bx v2319 q2162 24 #[.bool na0, .slice A0 n0 c0] := (E2319.far q2162 b2289.lt (by simp)).trans b2289
  have b2325 : Bx v2319 q2180 t2276 #[.bool x2278, .slice A2279 m2280 c2281] := (E2319.far q2180 b2290.lt (by simp)).trans b2290
  have b2326 : Bx v2319 q2211 t2311 #[.bool x2313, .slice A2314 m2315 c2316] := (E2319.far q2211 b2312.lt (by simp)).trans b2312
  have f2327 := f2291.mono E2319.mono
  have f2328 := f2292.mono E2319.mono
  have f2329 := f2293.mono E2319.mono
  have f2330 := f2294.mono E2319.mono
  have f2331 := f2295.mono E2319.mono
  have f2332 := f2296.mono E2319.mono
  have f2333 := f2297.mono E2319.mono
  have f2334 := f2298.mono E2319.mono
  have f2335 := f2299.mono E2319.mono
  have f2336 := f2300.mono E2319.mono
  have f2337 := f2301.mono E2319.mono
  have f2338 := f2302.mono E2319.mono
  have f2339 := f2303.mono E2319.mono
  have f2340 := f2304.mono E2319.mono
  have f2341 := f2305.mono E2319.mono
  have f2342 := f2306.mono E2319.mono
  have f2343 := f2308.mono E2319.mono
  have f2344 := f2318.mono E2319.mono
  have e2345 : g2319 0 = (.int .i64 es) := E2319.facts 0 (by decide)
  have e2346 : g2319 1 = (.int .i64 es) := E2319.facts 1 (by decide)
  have e2347 : g2319 2 = (.bool true) := E2319.facts 2 (by decide)
  have e2348 : g2319 3 = (.bool true) := E2319.facts 3 (by decide)
  have f2349 : Cz v2319 (g2319 4) zs := E2319.facts 4 (by decide)
  have f2350 : Cz v2319 (g2319 5) zs := E2319.facts 5 (by decide)
  have e2351 : g2319 6 = (.bool true) := E2319.facts 6 (by decide)
  have e2352 : g2319 7 = (.bool true) := E2319.facts 7 (by decide)
  have e2353 : g2319 8 = (.bool true) := E2319.facts 8 (by decide)
  refine then_normal ?_
  refine wp_ret ?_
  exact bodyPost_ret (results_tmp (t := 4) rfl _ _ _) rfl ⟨_, rfl, e2353, T2320⟩

theorem sgn_ne {z : Int} (h : z ≠ 0) : (z.sign == 0) = false := by
  cases e : (z.sign == 0) with
  | false => rfl
  | true => exact absurd (sign_eq_zero.1 e) h
theorem ipow_small {z : Int} {i n : Int} (h1 : i ≤ n) (h2 : blen z.natAbs * n.toNat ≤ 65536) : (digs (z ^ i.toNat).natAbs).length ≤ 2049 :=
  ipow_len (Nat.le_trans (Nat.mul_le_mul_left _ (by omega)) h2)
theorem blen_zero_iff {n : Nat} : blen n = 0 ↔ n = 0 := ⟨fun h => by rcases Nat.eq_zero_or_pos n with e | e; exact e; exact absurd (blen_pos e) (by omega), fun h => by rw [h]; rfl⟩
/-- What Power says. -/
theorem power_two (z n : Int) (hn0 : -9223372036854775808 ≤ n) (hn1 : n ≤ 9223372036854775807) : ∃ zp ep : Int,
    (∀ (v : World) (y : Value), Az 1048576 v y z → Calls Try.prog 35 #[y, .int .i64 n] v (Ret (.tup2 (.cz zp) (.is (.int .i64 ep))) v)) ∧
    (∀ (v : World) (y : Value), Az 1048576 v y z → Calls Try.prog 36 #[y, .int .i64 n] v (Ret (.tup2 (.cz zp) (.is (.int .i64 ep))) v)) := by
  by_cases h1 : n < 0
  · exact ⟨0, 1, fun v y h => zpow_a h (decide_eq_true h1), fun v y h => rpow_a h (by omega) (decide_eq_true h1)⟩
  have d1 := decide_eq_false h1
  by_cases h2 : 0 < blen z.natAbs
  · have d2 : decide ((0 : Int) < (blen z.natAbs : Int)) = true := decide_eq_true (by omega)
    have hz : z ≠ 0 := fun e => by subst e; exact absurd h2 (by decide)
    by_cases h3 : 65536 / (blen z.natAbs : Int) < n
    · exact ⟨0, 2, fun v y h => zpow_b h (by omega) d1 d2 (decide_eq_true h3), fun v y h => rpow_b h (by omega) d1 d2 (decide_eq_true h3)⟩
    have d3 := decide_eq_false h3
    have hb := pow_gt h2 (by omega) h3
    have hb2 : n ≤ 65536 := by
      have : n.toNat ≤ blen z.natAbs * n.toNat := Nat.le_mul_of_pos_left _ h2
      omega
    have hr : ∀ (v : World) (y : Value), Az 1048576 v y z → Calls Try.prog 36 #[y, .int .i64 n] v (Ret (.tup2 (.cz (z ^ n.toNat)) (.is (.int .i64 0))) v) :=
      fun v y h => rpow_c h (by omega) (by omega) (by omega) (fun i _ i1 => ipow_small i1 hb) d1 d2 d3 (sgn_ne hz)
    by_cases h4 : n = 0
    · refine ⟨1, 0, fun v y h => zpow_c h (by omega) d1 d2 d3 (beq_iff_eq.2 h4), ?_⟩
      subst h4
      simpa using hr
    · have d5 : ((blen z.natAbs : Int) == 0) = false := beq_eq_false_iff_ne.2 (by omega)
      exact ⟨_, 0, fun v y h => zpow_f h (by omega) hz (by omega) (ipow_small (i := n) (Int.le_refl _) hb) d1 d2 d3 (beq_eq_false_iff_ne.2 h4) d5, hr⟩
  · have d2 : decide ((0 : Int) < (blen z.natAbs : Int)) = false := decide_eq_false (by omega)
    have hz : z = 0 := by have := (blen_zero_iff (n := z.natAbs)).1 (by omega); omega
    subst hz
    by_cases h4 : n = 0
    · subst h4
      refine ⟨1, 0, fun v y h => zpow_d h d1 d2 (by rfl), ?_⟩
      have hr : ∀ (v : World) (y : Value), Az 1048576 v y 0 → Calls Try.prog 36 #[y, .int .i64 0] v (Ret (.tup2 (.cz ((0 : Int) ^ (0 : Int).toNat)) (.is (.int .i64 0))) v) :=
        fun v y h => rpow_d h (by omega) (by omega) (by omega) (fun i _ i1 => ipow_small i1 (by simp)) d1 d2 (by rfl) (by rfl)
      simpa using hr
    · exact ⟨0, 0, fun v y h => zpow_e h d1 d2 (beq_eq_false_iff_ne.2 h4) (by rfl), fun v y h => rpow_e h (by omega) d1 d2 (by rfl) (decide_eq_true (by omega))⟩
/-- What Shift says. -/
theorem shift_two (z n : Int) : ∃ zp ep : Int,
    (∀ (v : World) (y : Value), Az 1048576 v y z → Calls Try.prog 37 #[y, .int .i64 n] v (Ret (.tup2 (.cz zp) (.is (.int .i64 ep))) v)) ∧
    (∀ (v : World) (y : Value), Az 1048576 v y z → Calls Try.prog 38 #[y, .int .i64 n] v (Ret (.tup2 (.cz zp) (.is (.int .i64 ep))) v)) := by
  by_cases h1 : 65536 < n
  · exact ⟨0, 2, fun v y h => zshift_a h (by omega) (decide_eq_true h1), fun v y h => rshift_a h (by omega) (decide_eq_true h1)⟩
  have d1 := decide_eq_false h1
  by_cases h2 : n < -65536
  · exact ⟨0, 2, fun v y h => zshift_b h (by omega) d1 (decide_eq_true h2), fun v y h => rshift_b h (by omega) d1 (decide_eq_true h2)⟩
  have d2 := decide_eq_false h2
  by_cases h3 : 0 ≤ n
  · obtain ⟨e, rfl⟩ : ∃ e : Nat, n = (e : Int) := ⟨n.toNat, by omega⟩
    exact ⟨_, 0, fun v y h => zshift_c h (by omega) (by omega) d1 d2 (decide_eq_true h3), fun v y h => rshift_c h (by omega) (by omega) d1 d2 (decide_eq_true h3)⟩
  · obtain ⟨e, rfl⟩ : ∃ e : Nat, n = -(e : Int) := ⟨n.natAbs, by omega⟩
    exact ⟨_, 0, fun v y h => zshift_d h (by omega) (by omega) d1 d2 (decide_eq_false h3), fun v y h => rshift_d h (by omega) (by omega) d1 d2 (decide_eq_false h3)⟩
theorem zintPowers_law (w : World) (x : Value) (z : Int) (n : Int) (h0 : Az 1048576 w x z) (hn : (Lit.int .i64 n).wf = true) :
    Calls Try.prog 7 #[x, .int .i64 n] w fun e w' => e = .returned (.bool true) ∧ Below w.heap.size w w' := by
  obtain ⟨hn0, hn1⟩ : -9223372036854775808 ≤ n ∧ n ≤ 9223372036854775807 := by simpa [Lit.wf, IntKind.min, IntKind.max, IntKind.signed, IntKind.bits] using hn
  obtain ⟨zp, ep, c1, c2⟩ := power_two z n hn0 hn1
  obtain ⟨zs, es, c3, c4⟩ := shift_two z n
  refine (zintPowers_walk h0 c1 c2 c3 c4).mono fun e w' h => ?_
  obtain ⟨r, e, hr, hB⟩ := h
  have hr : r = .bool true := hr
  exact ⟨by rw [e, hr], hB⟩
end Go.Proofs.Ytkidgeeedigkhaa
