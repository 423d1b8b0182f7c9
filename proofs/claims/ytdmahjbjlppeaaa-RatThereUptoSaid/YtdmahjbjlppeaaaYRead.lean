
/- zint.Read -/
import Derived.Test.YtdmahjbjlppeaaaNumT
import Derived.Test.YtdmahjbjlppeaaaRegS
import Derived.Test.YtdmahjbjlppeaaaA6
import Derived.Test.YtdmahjbjlppeaaaLoop
namespace Go.Proofs.Ytdmahjbjlppeaaa
open Go.RowKit

theorem run_index10 (cs : Array Value) (k : Int) (v : Value) (w : World) (h0 : 0 ≤ k) (h1 : k < 10) (hv : cs[k.toNat]? = some v) : (Instr.index 104 (.agg cs) (.int .i64 k)).run Try.prog w = .ok v w := by
  have h2 : k < ((10 : Nat) : Int) := h1
  simp [Instr.index, run_underlying Try.underlying104, asIntOf, go_sem, h0, h1, hv]

set_option maxHeartbeats 4000000 in
set_option maxRecDepth 20000 in
theorem nines_0 {w : World} : Calls Try.prog 111 #[.int .i64 0] w (Ret (.is (.int .u32 1)) w) := by
  have hix := fun cs v w => run_index10 cs 0 v w (by decide) (by decide)
  go_enter Try.func111, Try.ntmps111
  go_wp2
  go_ret
  exact ⟨_, rfl, rfl, Below.refl _ _⟩
set_option maxHeartbeats 4000000 in
set_option maxRecDepth 20000 in
theorem nines_1 {w : World} : Calls Try.prog 111 #[.int .i64 1] w (Ret (.is (.int .u32 10)) w) := by
  have hix := fun cs v w => run_index10 cs 1 v w (by decide) (by decide)
  go_enter Try.func111, Try.ntmps111
  go_wp2
  go_ret
  exact ⟨_, rfl, rfl, Below.refl _ _⟩
set_option maxHeartbeats 4000000 in
set_option maxRecDepth 20000 in
theorem nines_2 {w : World} : Calls Try.prog 111 #[.int .i64 2] w (Ret (.is (.int .u32 100)) w) := by
  have hix := fun cs v w => run_index10 cs 2 v w (by decide) (by decide)
  go_enter Try.func111, Try.ntmps111
  go_wp2
  go_ret
  exact ⟨_, rfl, rfl, Below.refl _ _⟩
set_option maxHeartbeats 4000000 in
set_option maxRecDepth 20000 in
theorem nines_3 {w : World} : Calls Try.prog 111 #[.int .i64 3] w (Ret (.is (.int .u32 1000)) w) := by
  have hix := fun cs v w => run_index10 cs 3 v w (by decide) (by decide)
  go_enter Try.func111, Try.ntmps111
  go_wp2
  go_ret
  exact ⟨_, rfl, rfl, Below.refl _ _⟩
set_option maxHeartbeats 4000000 in
set_option maxRecDepth 20000 in
theorem nines_4 {w : World} : Calls Try.prog 111 #[.int .i64 4] w (Ret (.is (.int .u32 10000)) w) := by
  have hix := fun cs v w => run_index10 cs 4 v w (by decide) (by decide)
  go_enter Try.func111, Try.ntmps111
  go_wp2
  go_ret
  exact ⟨_, rfl, rfl, Below.refl _ _⟩
set_option maxHeartbeats 4000000 in
set_option maxRecDepth 20000 in
theorem nines_5 {w : World} : Calls Try.prog 111 #[.int .i64 5] w (Ret (.is (.int .u32 100000)) w) := by
  have hix := fun cs v w => run_index10 cs 5 v w (by decide) (by decide)
  go_enter Try.func111, Try.ntmps111
  go_wp2
  go_ret
  exact ⟨_, rfl, rfl, Below.refl _ _⟩
set_option maxHeartbeats 4000000 in
set_option maxRecDepth 20000 in
theorem nines_6 {w : World} : Calls Try.prog 111 #[.int .i64 6] w (Ret (.is (.int .u32 1000000)) w) := by
  have hix := fun cs v w => run_index10 cs 6 v w (by decide) (by decide)
  go_enter Try.func111, Try.ntmps111
  go_wp2
  go_ret
  exact ⟨_, rfl, rfl, Below.refl _ _⟩
set_option maxHeartbeats 4000000 in
set_option maxRecDepth 20000 in
theorem nines_7 {w : World} : Calls Try.prog 111 #[.int .i64 7] w (Ret (.is (.int .u32 10000000)) w) := by
  have hix := fun cs v w => run_index10 cs 7 v w (by decide) (by decide)
  go_enter Try.func111, Try.ntmps111
  go_wp2
  go_ret
  exact ⟨_, rfl, rfl, Below.refl _ _⟩
set_option maxHeartbeats 4000000 in
set_option maxRecDepth 20000 in
theorem nines_8 {w : World} : Calls Try.prog 111 #[.int .i64 8] w (Ret (.is (.int .u32 100000000)) w) := by
  have hix := fun cs v w => run_index10 cs 8 v w (by decide) (by decide)
  go_enter Try.func111, Try.ntmps111
  go_wp2
  go_ret
  exact ⟨_, rfl, rfl, Below.refl _ _⟩
set_option maxHeartbeats 4000000 in
set_option maxRecDepth 20000 in
theorem nines_9 {w : World} : Calls Try.prog 111 #[.int .i64 9] w (Ret (.is (.int .u32 1000000000)) w) := by
  have hix := fun cs v w => run_index10 cs 9 v w (by decide) (by decide)
  go_enter Try.func111, Try.ntmps111
  go_wp2
  go_ret
  exact ⟨_, rfl, rfl, Below.refl _ _⟩
theorem nines_k {w : World} {x : Value} {n : Nat} (hx : x = .int .i64 (n : Int)) (hn : n ≤ 9) : Calls Try.prog 111 #[x] w (Ret (.is (.int .u32 ((10 ^ n : Nat) : Int))) w) := by
  subst hx
  have h : n = 0 ∨ n = 1 ∨ n = 2 ∨ n = 3 ∨ n = 4 ∨ n = 5 ∨ n = 6 ∨ n = 7 ∨ n = 8 ∨ n = 9 := by omega
  rcases h with rfl | rfl | rfl | rfl | rfl | rfl | rfl | rfl | rfl | rfl
  · exact nines_0
  · exact nines_1
  · exact nines_2
  · exact nines_3
  · exact nines_4
  · exact nines_5
  · exact nines_6
  · exact nines_7
  · exact nines_8
  · exact nines_9
theorem nadd_m {w : World} {x y : Value} {a b N M K M' : Nat} (h : Nz N w x a) (h' : Nz M w y b) (hN : N < 70368744177664) (hM : M < 70368744177664) (e : a + b = M') (hK : (digs M').length ≤ K) : Calls Try.prog 92 #[x, y] w (Ret (.nz K M') w) := by
  subst e
  obtain ⟨A, n, c, l, rfl, hS, rfl, hn⟩ := h
  obtain ⟨A', n', c', l', rfl, hS', rfl, hn'⟩ := h'
  exact (add_calls w A n c l A' n' c' l' hS hS' (by omega) (by omega) _ rfl).mono fun _ _ h => h.k hK

theorem scan_ways {s : ByteArray} {a m i : Nat} (HG : Hid (∀ j, a ≤ j → j < m → ¬ BadF s a j)) (h0 : a ≤ i) (h1 : i ≤ m) :
    (i < m ∧ decide ((byteN s i : Int) < 48) = false ∧ decide ((57 : Int) < (byteN s i : Int)) = false ∧ ((i : Int) == ((a : Int) + 1)) = true ∧ ((byteN s a : Int) == 48) = false) ∨
    (i < m ∧ decide ((byteN s i : Int) < 48) = false ∧ decide ((57 : Int) < (byteN s i : Int)) = false ∧ ((i : Int) == ((a : Int) + 1)) = false) ∨ i = m := by
  by_cases h : i < m
  · have := HG.out i h0 h
    unfold BadF at this
    by_cases h2 : i = a + 1
    · exact .inl ⟨h, by simp; omega, by simp; omega, beq_iff_eq.2 (by omega), beq_eq_false_iff_ne.2 (by omega)⟩
    · exact .inr (.inl ⟨h, by simp; omega, by simp; omega, beq_eq_false_iff_ne.2 (by omega)⟩)
  · exact .inr (.inr (by omega))
theorem dig_small9 {s : ByteArray} {a i j : Nat} (HD : Hid (∀ j, a ≤ j → j < s.size → 48 ≤ byteN s j ∧ byteN s j ≤ 57)) (h0 : a ≤ i) (h1 : i + j ≤ s.size) (hj : j ≤ 9) : 0 ≤ (dvFrom s i j : Int) ∧ (dvFrom s i j : Int) < 4294967296 := by
  have := dvFrom_lt s i j fun k hk => (HD.out (i + k) (by omega) (by omega)).2
  have h2 : 10 ^ j ≤ 10 ^ 9 := Nat.pow_le_pow_right (by omega) hj
  omega
theorem dig_small {s : ByteArray} {a i j : Nat} (HD : Hid (∀ j, a ≤ j → j < s.size → 48 ≤ byteN s j ∧ byteN s j ≤ 57)) (h0 : a ≤ i) (h1 : i + j ≤ s.size) (hj : j ≤ 8) : 0 ≤ (dvFrom s i j : Int) ∧ (dvFrom s i j : Int) < 100000000 := by
  have := dvFrom_lt s i j fun k hk => (HD.out (i + k) (by omega) (by omega)).2
  have h2 : 10 ^ j ≤ 10 ^ 8 := Nat.pow_le_pow_right (by omega) hj
  omega
theorem dig_len {s : ByteArray} {a i j : Nat} (HD : Hid (∀ j, a ≤ j → j < s.size → 48 ≤ byteN s j ∧ byteN s j ≤ 57)) (h0 : a ≤ i) (h1 : i + j ≤ s.size) : (digs (dvFrom s i j)).length ≤ j :=
  digs_len_le (Nat.lt_of_lt_of_le (dvFrom_lt s i j fun k hk => (HD.out (i + k) (by omega) (by omega)).2) (Nat.pow_le_pow_left (by omega) j))
theorem bad_ways {s : ByteArray} {a m : Nat} (h : BadF s a m) : decide ((byteN s m : Int) < 48) = true ∨ decide ((byteN s m : Int) < 48) = false ∧ decide ((57 : Int) < (byteN s m : Int)) = true ∨
    decide ((byteN s m : Int) < 48) = false ∧ decide ((57 : Int) < (byteN s m : Int)) = false ∧ ((m : Int) == ((a : Int) + 1)) = true ∧ ((byteN s a : Int) == 48) = true := by
  unfold BadF at h
  by_cases h1 : byteN s m < 48
  · exact .inl (by simp; omega)
  · by_cases h2 : 57 < byteN s m
    · exact .inr (.inl ⟨by simp; omega, by simp; omega⟩)
    · exact .inr (.inr ⟨by simp; omega, by simp; omega, beq_iff_eq.2 (by omega), beq_iff_eq.2 (by omega)⟩)

theorem scan_bad {s : ByteArray} {a m i : Nat} (HG : Hid (∀ j, a ≤ j → j < m → ¬ BadF s a j)) (hb : BadF s a m) (h0 : a ≤ i) (h1 : i ≤ m) :
    (i < m ∧ decide ((byteN s i : Int) < 48) = false ∧ decide ((57 : Int) < (byteN s i : Int)) = false ∧ ((i : Int) == ((a : Int) + 1)) = true ∧ ((byteN s a : Int) == 48) = false) ∨
    (i < m ∧ decide ((byteN s i : Int) < 48) = false ∧ decide ((57 : Int) < (byteN s i : Int)) = false ∧ ((i : Int) == ((a : Int) + 1)) = false) ∨
    (i = m ∧ decide ((byteN s i : Int) < 48) = true) ∨ (i = m ∧ decide ((byteN s i : Int) < 48) = false ∧ decide ((57 : Int) < (byteN s i : Int)) = true) ∨
    (i = m ∧ decide ((byteN s i : Int) < 48) = false ∧ decide ((57 : Int) < (byteN s i : Int)) = false ∧ ((i : Int) == ((a : Int) + 1)) = true ∧ ((byteN s a : Int) == 48) = true) := by
  rcases scan_ways HG h0 h1 with h | h | rfl
  · exact .inl h
  · exact .inr (.inl h)
  · rcases bad_ways hb with h | h | h
    · exact .inr (.inr (.inl ⟨rfl, h⟩))
    · exact .inr (.inr (.inr (.inl ⟨rfl, h⟩)))
    · exact .inr (.inr (.inr (.inr ⟨rfl, h⟩)))

set_option maxHeartbeats 4000000 in
set_option maxRecDepth 8000 in
theorem zread_bad0 {w : World} {s : ByteArray} (d1 : decide ((65536 : Int) < (s.size : Int)) = false) (dp : decide ((0 : Int) < (s.size : Int)) = true) (hs0 : 0 < s.size) (dm : ((byteN s 0 : Int) == 45) = false) {m : Nat} (hm0 : 0 ≤ m) (hm : m < s.size) (HG : Hid (∀ j, 0 ≤ j → j < m → ¬ BadF s 0 j)) (hbad : BadF s 0 m)  : Calls Try.prog 99 #[.string s] w (Ret (.tup3 (.cz 0) (.is (.int .i64 (m : Int))) (.is (.int .i64 4))) w) := by
  have hsz : s.size ≤ 65536 := by have := of_decide_eq_false d1; omega
  have T0 : Below w.heap.size w w := Below.refl _ _
  go_enter Try.func99, Try.ntmps99
  refine wp_seq ?_
  have HB : w.heap.size ≤ w.heap.size := T0.size
  refine wp_plan_seq [.new 2 (some (24, #[.bool false, .slice none 0 0])), .val (.is (.int .i64 0)), .val (.is (.int .i64 0))] [] [] w.heap.size (by kernel_rfl) (by kernel_rfl) trivial HB ?_ ?_
  · exact ⟨fun s v h => does_new rfl rfl x_alloc_z (okz _ _ _ _) rfl (.inr rfl),
      fun s v h => does_val rfl rfl (x_assign) rfl,
      fun s v h => does_val rfl rfl (x_assign) rfl, trivial⟩
  intro g1 ts v1 hts E1
  simp only [fillL, Nat.reduceAdd, List.setIfInBounds_toArray, List.set_cons_zero, List.set_cons_succ] at hts
  subst hts
  have T2 : Below w.heap.size w v1 := T0.trans E1.below
  obtain ⟨q5, p6, l7, o8, b9⟩ : ∃ q, g1 0 = .pointer (some ⟨q, 0, none⟩) ∧ w.heap.size ≤ q ∧ OkB v1 q 2 ∧ Bx v1 q 24 #[.bool false, .slice none 0 0] := E1.facts 0 (by decide)
  have f10 : Cz v1 (.agg #[.bool false, .slice none 0 0]) 0 := cz_zero _
  have h11 : w.heap.size ≤ q5 := Nat.le_trans HB l7
  refine then_normal ?_
  refine wp_seq ?_
  refine wp_seq ?_
  have HB : w.heap.size ≤ v1.heap.size := T2.size
  refine wp_plan_seq [.val (.is (.string s)), .val (.is (.int .i64 (s.size : Int))), .val (.is (.bool false))] [] [] w.heap.size (by kernel_rfl) (by kernel_rfl) trivial HB ?_ ?_
  · exact ⟨fun s v h => does_val rfl rfl (x_move) (h.same 0 rfl),
      fun s v h => does_val rfl rfl (x_len_str (h.dep 0 rfl)) rfl,
      fun s v h => does_val rfl rfl (x_gtr (h.dep 1 rfl) rfl) (congrArg Value.bool d1), trivial⟩
  intro g12 ts v12 hts E12
  simp only [fillL, Nat.reduceAdd, List.setIfInBounds_toArray, List.set_cons_zero, List.set_cons_succ] at hts
  subst hts
  have T13 : Below w.heap.size w v12 := T2.trans E12.below
  have l14 : q5 < v1.heap.size := b9.lt
  have b15 : Bx v12 q5 24 #[.bool false, .slice none 0 0] := (E12.far q5 b9.lt (by simp)).trans b9
  have f16 := f10.mono E12.mono
  have e19 : g12 2 = (.bool false) := E12.facts 2 (by decide)
  refine then_normal ?_
  refine wp_cond_false e19 ?_
  refine wp_skip ?_
  refine then_normal ?_
  refine wp_seq ?_
  have HB : w.heap.size ≤ v12.heap.size := T13.size
  refine wp_plan_seq [.val (.is (.int .i64 0))] [] [] w.heap.size (by kernel_rfl) (by kernel_rfl) trivial HB ?_ ?_
  · exact ⟨fun s v h => does_val rfl rfl (x_assign) rfl, trivial⟩
  intro g20 ts v20 hts E20
  simp only [fillL, List.setIfInBounds_toArray, List.set_cons_zero, List.set_cons_succ] at hts
  subst hts
  have T21 : Below w.heap.size w v20 := T13.trans E20.below
  have l22 : q5 < v12.heap.size := b15.lt
  have b23 : Bx v20 q5 24 #[.bool false, .slice none 0 0] := (E20.far q5 b15.lt (by simp)).trans b15
  have f24 := f16.mono E20.mono
  have e25 : g20 0 = (.int .i64 0) := E20.facts 0 (by decide)
  refine then_normal ?_
  refine wp_seq ?_
  refine wp_seq ?_
  have HB : w.heap.size ≤ v20.heap.size := T21.size
  refine wp_plan_seq [.val (.is (.string s)), .val (.is (.int .i64 (s.size : Int))), .val (.is (.bool true)), .val (.is (.bool true)), .val (.is (.string s)), .val (.is (.int .u8 (byteN s 0 : Int))), .val (.is (.bool false)), .val (.is (.bool false))] [] [] w.heap.size (by kernel_rfl) (by kernel_rfl) trivial HB ?_ ?_
  · exact ⟨fun s v h => does_val rfl rfl (x_move) (h.same 0 rfl),
      fun s v h => does_val rfl rfl (x_len_str (h.dep 0 rfl)) rfl,
      fun s v h => does_val rfl rfl (x_gtr (h.dep 1 rfl) rfl) (congrArg Value.bool dp),
      fun s v h => does_val rfl rfl (x_move) (h.dep 2 rfl),
      fun s v h => does_val rfl (wanted_by (b := true) (want := true) rfl rfl (h.dep 3 rfl)) (x_move) (h.same 0 rfl),
      fun s v h => does_val rfl (wanted_by (b := true) (want := true) rfl rfl (h.dep 3 rfl)) (x_index_str (h.dep 4 rfl) (k := 0) rfl (by omega)) rfl,
      fun s v h => does_val rfl (wanted_by (b := true) (want := true) rfl rfl (h.dep 3 rfl)) (x_eql_u8 (h.dep 5 rfl) rfl) (congrArg Value.bool dm),
      fun s v h => does_val rfl rfl (x_pick (h.dep 3 rfl)) (h.dep 6 rfl), trivial⟩
  intro g26 ts v26 hts E26
  simp only [fillL, Nat.reduceAdd, List.setIfInBounds_toArray, List.set_cons_zero, List.set_cons_succ] at hts
  subst hts
  have T27 : Below w.heap.size w v26 := T21.trans E26.below
  have l28 : q5 < v20.heap.size := b23.lt
  have b29 : Bx v26 q5 24 #[.bool false, .slice none 0 0] := (E26.far q5 b23.lt (by simp)).trans b23
  have f30 := f24.mono E26.mono
  have e38 : g26 7 = (.bool false) := E26.facts 7 (by decide)
  refine then_normal ?_
  refine wp_cond_false e38 ?_
  refine wp_skip ?_
  refine then_normal ?_
  refine wp_seq ?_
  refine wp_seq ?_
  have HB : w.heap.size ≤ v26.heap.size := T27.size
  refine wp_plan_seq [.val (.is (.int .i64 0)), .val (.is (.bool false)), .val (.is (.bool false)), .val (.is undef), .val (.is undef), .val (.is undef), .val (.is (.bool false)), .val (.is (.bool false)), .val (.is undef), .val (.is undef), .val (.is undef), .val (.is (.bool false))] [] [] w.heap.size (by kernel_rfl) (by kernel_rfl) trivial HB ?_ ?_
  · exact ⟨fun s v h => does_val rfl rfl (x_move) ((h.same 5 rfl).trans e25),
      fun s v h => does_val rfl rfl (x_eql_int (h.dep 0 rfl) rfl) rfl,
      fun s v h => does_val rfl rfl (x_move) (h.dep 1 rfl),
      fun s v h => does_skip rfl (wanted_by (b := false) (want := true) rfl rfl (h.dep 2 rfl)) rfl,
      fun s v h => does_skip rfl (wanted_by (b := false) (want := true) rfl rfl (h.dep 2 rfl)) rfl,
      fun s v h => does_skip rfl (wanted_by (b := false) (want := true) rfl rfl (h.dep 2 rfl)) rfl,
      fun s v h => does_val rfl rfl (x_pick (h.dep 2 rfl)) rfl,
      fun s v h => does_val rfl rfl (x_move) (h.dep 6 rfl),
      fun s v h => does_skip rfl (wanted_by (b := false) (want := true) rfl rfl (h.dep 7 rfl)) rfl,
      fun s v h => does_skip rfl (wanted_by (b := false) (want := true) rfl rfl (h.dep 7 rfl)) rfl,
      fun s v h => does_skip rfl (wanted_by (b := false) (want := true) rfl rfl (h.dep 7 rfl)) rfl,
      fun s v h => does_val rfl rfl (x_pick (h.dep 7 rfl)) rfl, trivial⟩
  intro g39 ts v39 hts E39
  simp only [fillL, Nat.reduceAdd, List.setIfInBounds_toArray, List.set_cons_zero, List.set_cons_succ] at hts
  subst hts
  have T40 : Below w.heap.size w v39 := T27.trans E39.below
  have l41 : q5 < v26.heap.size := b29.lt
  have b42 : Bx v39 q5 24 #[.bool false, .slice none 0 0] := (E39.far q5 b29.lt (by simp)).trans b29
  have f43 := f30.mono E39.mono
  have e55 : g39 11 = (.bool false) := E39.facts 11 (by decide)
  refine then_normal ?_
  refine wp_cond_false e55 ?_
  refine wp_skip ?_
  refine then_normal ?_
  refine wp_seq ?_
  refine wp_seq ?_
  have HB : w.heap.size ≤ v39.heap.size := T40.size
  refine wp_plan_seq [.val (.is (.int .i64 0)), .val (.is (.int .i64 0))] [] [] w.heap.size (by kernel_rfl) (by kernel_rfl) trivial HB ?_ ?_
  · exact ⟨fun s v h => does_val rfl rfl (x_move) ((h.same 5 rfl).trans e25),
      fun s v h => does_val rfl rfl (x_assign) (h.dep 0 rfl), trivial⟩
  intro g56 ts v56 hts E56
  simp only [fillL, Nat.reduceAdd, List.setIfInBounds_toArray, List.set_cons_zero, List.set_cons_succ] at hts
  subst hts
  have T57 : Below w.heap.size w v56 := T40.trans E56.below
  have l58 : q5 < v39.heap.size := b42.lt
  have b59 : Bx v56 q5 24 #[.bool false, .slice none 0 0] := (E56.far q5 b42.lt (by simp)).trans b42
  have f60 := f43.mono E56.mono
  have e62 : g56 1 = (.int .i64 0) := E56.facts 1 (by decide)
  refine then_normal ?_
  refine wp_block ?_
  refine wp_loop_v 109 (fun k y wL => ∃ (i1 : Nat), y 2 = .pointer (some ⟨q5, 0, none⟩) ∧ y 0 = (.string s) ∧ y 5 = (.int .i64 0) ∧ y 6 = (.int .i64 (i1 : Int)) ∧ Below w.heap.size w wL ∧ Bx wL q5 24 #[.bool false, .slice none 0 0] ∧ Cz wL (.agg #[.bool false, .slice none 0 0]) 0 ∧ (0 ≤ i1 ∧ i1 ≤ m) ∧ k = m - i1) rfl rfl ⟨_, 0, p6, rfl, e25, e62, T57, b59, f60, ⟨by omega, by omega⟩, rfl⟩ ?_
  rintro k y63 v63 ⟨i1, p64, p65, p66, p67, T68, b69, f70, ⟨j1, j2⟩, hk⟩
  have hlit : litv 109 y63 = #[y63 0, y63 1, y63 2, y63 3, y63 4, y63 5, y63 6, y63 7, y63 8, y63 9, y63 10, y63 11, y63 12, y63 13, y63 14, y63 15, y63 16, y63 17, y63 18, y63 19, y63 20, y63 21, y63 22, y63 23, y63 24, y63 25, y63 26, y63 27, y63 28, y63 29, y63 30, y63 31, y63 32, y63 33, y63 34, y63 35, y63 36, y63 37, y63 38, y63 39, y63 40, y63 41, y63 42, y63 43, y63 44, y63 45, y63 46, y63 47, y63 48, y63 49, y63 50, y63 51, y63 52, y63 53, y63 54, y63 55, y63 56, y63 57, y63 58, y63 59, y63 60, y63 61, y63 62, y63 63, y63 64, y63 65, y63 66, y63 67, y63 68, y63 69, y63 70, y63 71, y63 72, y63 73, y63 74, y63 75, y63 76, y63 77, y63 78, y63 79, y63 80, y63 81, y63 82, y63 83, y63 84, y63 85, y63 86, y63 87, y63 88, y63 89, y63 90, y63 91, y63 92, y63 93, y63 94, y63 95, y63 96, y63 97, y63 98, y63 99, y63 100, y63 101, y63 102, y63 103, y63 104, y63 105, y63 106, y63 107, y63 108] := rfl
  rw [hlit]
  clear hlit
  rcases scan_bad HG hbad j1 j2 with ⟨hlt, b1, b2, b3, b4⟩ | ⟨hlt, b1, b2, b3⟩ | ⟨hlt, c1⟩ | ⟨hlt, c1, c2⟩ | ⟨hlt, c1, c2, c3, c4⟩
  · skip
    have him : (i1 : Int) < (s.size : Int) := by omega
    have e0 : decide ((i1 : Int) < (s.size : Int)) = true := decide_eq_true him
    refine wp_seq ?_
    refine wp_seq ?_
    have HB : w.heap.size ≤ v63.heap.size := T68.size
    refine wp_plan_seq [.val (.is (.int .i64 (i1 : Int))), .val (.is (.string s)), .val (.is (.int .i64 (s.size : Int))), .val (.is (.bool true))] [] [] w.heap.size (by kernel_rfl) (by kernel_rfl) trivial HB ?_ ?_
    · exact ⟨fun s v h => does_val rfl rfl (x_move) ((h.same 6 rfl).trans p67),
      fun s v h => does_val rfl rfl (x_move) ((h.same 0 rfl).trans p65),
      fun s v h => does_val rfl rfl (x_len_str (h.dep 1 rfl)) rfl,
      fun s v h => does_val rfl rfl (x_lss (h.dep 0 rfl) (h.dep 2 rfl)) (congrArg Value.bool e0), trivial⟩
    intro g71 ts v71 hts E71
    simp only [fillL, Nat.reduceAdd, List.setIfInBounds_toArray, List.set_cons_zero, List.set_cons_succ] at hts
    subst hts
    have T72 : Below w.heap.size w v71 := T68.trans E71.below
    have l73 : q5 < v63.heap.size := b69.lt
    have b74 : Bx v71 q5 24 #[.bool false, .slice none 0 0] := (E71.far q5 b69.lt (by simp)).trans b69
    have f75 := f70.mono E71.mono
    have e79 : g71 3 = (.bool true) := E71.facts 3 (by decide)
    refine then_normal ?_
    refine wp_cond_true e79 ?_
    refine wp_skip ?_
    refine then_normal ?_
    refine wp_seq ?_
    refine wp_block ?_
    refine wp_seq ?_
    have HB : w.heap.size ≤ v71.heap.size := T72.size
    refine wp_plan_seq [.val (.is (.string s)), .val (.is (.int .i64 (i1 : Int))), .val (.is (.int .u8 (byteN s i1 : Int))), .val (.is (.bool false)), .val (.is (.bool false)), .val (.is (.string s)), .val (.is (.int .i64 (i1 : Int))), .val (.is (.int .u8 (byteN s i1 : Int))), .val (.is (.bool false)), .val (.is (.bool false)), .val (.is (.bool false)), .val (.is (.int .i64 (i1 : Int))), .val (.is (.int .i64 0)), .val (.is (.int .i64 (0 + 1))), .val (.is (.bool true)), .val (.is (.bool true)), .val (.is (.string s)), .val (.is (.int .i64 0)), .val (.is (.int .u8 (byteN s 0 : Int))), .val (.is (.bool false)), .val (.is (.bool false)), .val (.is (.bool false))] [] [] w.heap.size (by kernel_rfl) (by kernel_rfl) trivial HB ?_ ?_
    · exact ⟨fun s v h => does_val rfl rfl (x_move) ((h.same 0 rfl).trans p65),
      fun s v h => does_val rfl rfl (x_move) ((h.same 6 rfl).trans p67),
      fun s v h => does_val rfl rfl (x_index_str (h.dep 0 rfl) (k := i1) (h.dep 1 rfl) (by omega)) rfl,
      fun s v h => does_val rfl rfl (x_lss (h.dep 2 rfl) rfl) (congrArg Value.bool b1),
      fun s v h => does_val rfl rfl (x_move) (h.dep 3 rfl),
      fun s v h => does_val rfl (wanted_by (b := false) (want := false) rfl rfl (h.dep 4 rfl)) (x_move) ((h.same 0 rfl).trans p65),
      fun s v h => does_val rfl (wanted_by (b := false) (want := false) rfl rfl (h.dep 4 rfl)) (x_move) ((h.same 6 rfl).trans p67),
      fun s v h => does_val rfl (wanted_by (b := false) (want := false) rfl rfl (h.dep 4 rfl)) (x_index_str (h.dep 5 rfl) (k := i1) (h.dep 6 rfl) (by omega)) rfl,
      fun s v h => does_val rfl (wanted_by (b := false) (want := false) rfl rfl (h.dep 4 rfl)) (x_gtr (h.dep 7 rfl) rfl) (congrArg Value.bool b2),
      fun s v h => does_val rfl rfl (x_pick (h.dep 4 rfl)) (h.dep 8 rfl),
      fun s v h => does_val rfl rfl (x_move) (h.dep 9 rfl),
      fun s v h => does_val rfl (wanted_by (b := false) (want := false) rfl rfl (h.dep 10 rfl)) (x_move) ((h.same 6 rfl).trans p67),
      fun s v h => does_val rfl (wanted_by (b := false) (want := false) rfl rfl (h.dep 10 rfl)) (x_move) ((h.same 5 rfl).trans p66),
      fun s v h => does_val rfl (wanted_by (b := false) (want := false) rfl rfl (h.dep 10 rfl)) (x_add (h.dep 12 rfl) rfl (by rw [IntKind.wrap_i64]; omega)) rfl,
      fun s v h => does_val rfl (wanted_by (b := false) (want := false) rfl rfl (h.dep 10 rfl)) (x_eql_int (h.dep 11 rfl) (h.dep 13 rfl)) (congrArg Value.bool b3),
      fun s v h => does_val rfl (wanted_by (b := false) (want := false) rfl rfl (h.dep 10 rfl)) (x_move) (h.dep 14 rfl),
      fun s v h => does_val rfl (wanted_by (b := true) (want := true) rfl rfl (h.dep 15 rfl)) (x_move) ((h.same 0 rfl).trans p65),
      fun s v h => does_val rfl (wanted_by (b := true) (want := true) rfl rfl (h.dep 15 rfl)) (x_move) ((h.same 5 rfl).trans p66),
      fun s v h => does_val rfl (wanted_by (b := true) (want := true) rfl rfl (h.dep 15 rfl)) (x_index_str (h.dep 16 rfl) (k := 0) (h.dep 17 rfl) (by omega)) rfl,
      fun s v h => does_val rfl (wanted_by (b := true) (want := true) rfl rfl (h.dep 15 rfl)) (x_eql_u8 (h.dep 18 rfl) rfl) (congrArg Value.bool b4),
      fun s v h => does_val rfl (wanted_by (b := false) (want := false) rfl rfl (h.dep 10 rfl)) (x_pick (h.dep 15 rfl)) (h.dep 19 rfl),
      fun s v h => does_val rfl rfl (x_pick (h.dep 10 rfl)) (h.dep 20 rfl), trivial⟩
    intro g80 ts v80 hts E80
    simp only [fillL, Nat.reduceAdd, List.setIfInBounds_toArray, List.set_cons_zero, List.set_cons_succ] at hts
    subst hts
    have T81 : Below w.heap.size w v80 := T72.trans E80.below
    have l82 : q5 < v71.heap.size := b74.lt
    have b83 : Bx v80 q5 24 #[.bool false, .slice none 0 0] := (E80.far q5 b74.lt (by simp)).trans b74
    have f84 := f75.mono E80.mono
    have e106 : g80 21 = (.bool false) := E80.facts 21 (by decide)
    refine then_normal ?_
    refine wp_cond_false e106 ?_
    refine wp_skip ?_
    refine block_normal ?_
    refine then_normal ?_
    have HB : w.heap.size ≤ v80.heap.size := T81.size
    refine wp_plan_seq [.val (.is (.int .i64 (i1 : Int))), .val (.is (.int .i64 ((i1 + 1 : Nat) : Int))), .val (.is (.int .i64 ((i1 + 1 : Nat) : Int)))] [] [] w.heap.size (by kernel_rfl) (by kernel_rfl) trivial HB ?_ ?_
    · exact ⟨fun s v h => does_val rfl rfl (x_move) ((h.soon 2 6 rfl rfl).trans p67),
      fun s v h => does_val rfl rfl (x_add (h.dep 0 rfl) rfl (by rw [IntKind.wrap_i64]; omega)) (congrArg (Value.int .i64) (by omega)),
      fun s v h => does_val rfl rfl (x_assign) (h.dep 1 rfl), trivial⟩
    intro g107 ts v107 hts E107
    simp only [fillL, Nat.reduceAdd, List.setIfInBounds_toArray, List.set_cons_zero, List.set_cons_succ] at hts
    subst hts
    have T108 : Below w.heap.size w v107 := T81.trans E107.below
    have l109 : q5 < v80.heap.size := b83.lt
    have b110 : Bx v107 q5 24 #[.bool false, .slice none 0 0] := (E107.far q5 b83.lt (by simp)).trans b83
    have f111 := f84.mono E107.mono
    have e114 : g107 2 = (.int .i64 ((i1 + 1 : Nat) : Int)) := E107.facts 2 (by decide)
    refine then_normal ?_
    exact ⟨rfl, rfl, _, (by omega), (i1 + 1), p64, p65, p66, e114, T108, b110, f111, ⟨by omega, by omega⟩, rfl⟩
  · skip
    have him : (i1 : Int) < (s.size : Int) := by omega
    have e0 : decide ((i1 : Int) < (s.size : Int)) = true := decide_eq_true him
    refine wp_seq ?_
    refine wp_seq ?_
    have HB : w.heap.size ≤ v63.heap.size := T68.size
    refine wp_plan_seq [.val (.is (.int .i64 (i1 : Int))), .val (.is (.string s)), .val (.is (.int .i64 (s.size : Int))), .val (.is (.bool true))] [] [] w.heap.size (by kernel_rfl) (by kernel_rfl) trivial HB ?_ ?_
    · exact ⟨fun s v h => does_val rfl rfl (x_move) ((h.same 6 rfl).trans p67),
      fun s v h => does_val rfl rfl (x_move) ((h.same 0 rfl).trans p65),
      fun s v h => does_val rfl rfl (x_len_str (h.dep 1 rfl)) rfl,
      fun s v h => does_val rfl rfl (x_lss (h.dep 0 rfl) (h.dep 2 rfl)) (congrArg Value.bool e0), trivial⟩
    intro g115 ts v115 hts E115
    simp only [fillL, Nat.reduceAdd, List.setIfInBounds_toArray, List.set_cons_zero, List.set_cons_succ] at hts
    subst hts
    have T116 : Below w.heap.size w v115 := T68.trans E115.below
    have l117 : q5 < v63.heap.size := b69.lt
    have b118 : Bx v115 q5 24 #[.bool false, .slice none 0 0] := (E115.far q5 b69.lt (by simp)).trans b69
    have f119 := f70.mono E115.mono
    have e123 : g115 3 = (.bool true) := E115.facts 3 (by decide)
    refine then_normal ?_
    refine wp_cond_true e123 ?_
    refine wp_skip ?_
    refine then_normal ?_
    refine wp_seq ?_
    refine wp_block ?_
    refine wp_seq ?_
    have HB : w.heap.size ≤ v115.heap.size := T116.size
    refine wp_plan_seq [.val (.is (.string s)), .val (.is (.int .i64 (i1 : Int))), .val (.is (.int .u8 (byteN s i1 : Int))), .val (.is (.bool false)), .val (.is (.bool false)), .val (.is (.string s)), .val (.is (.int .i64 (i1 : Int))), .val (.is (.int .u8 (byteN s i1 : Int))), .val (.is (.bool false)), .val (.is (.bool false)), .val (.is (.bool false)), .val (.is (.int .i64 (i1 : Int))), .val (.is (.int .i64 0)), .val (.is (.int .i64 (0 + 1))), .val (.is (.bool false)), .val (.is (.bool false)), .val (.is undef), .val (.is undef), .val (.is undef), .val (.is undef), .val (.is (.bool false)), .val (.is (.bool false))] [] [] w.heap.size (by kernel_rfl) (by kernel_rfl) trivial HB ?_ ?_
    · exact ⟨fun s v h => does_val rfl rfl (x_move) ((h.same 0 rfl).trans p65),
      fun s v h => does_val rfl rfl (x_move) ((h.same 6 rfl).trans p67),
      fun s v h => does_val rfl rfl (x_index_str (h.dep 0 rfl) (k := i1) (h.dep 1 rfl) (by omega)) rfl,
      fun s v h => does_val rfl rfl (x_lss (h.dep 2 rfl) rfl) (congrArg Value.bool b1),
      fun s v h => does_val rfl rfl (x_move) (h.dep 3 rfl),
      fun s v h => does_val rfl (wanted_by (b := false) (want := false) rfl rfl (h.dep 4 rfl)) (x_move) ((h.same 0 rfl).trans p65),
      fun s v h => does_val rfl (wanted_by (b := false) (want := false) rfl rfl (h.dep 4 rfl)) (x_move) ((h.same 6 rfl).trans p67),
      fun s v h => does_val rfl (wanted_by (b := false) (want := false) rfl rfl (h.dep 4 rfl)) (x_index_str (h.dep 5 rfl) (k := i1) (h.dep 6 rfl) (by omega)) rfl,
      fun s v h => does_val rfl (wanted_by (b := false) (want := false) rfl rfl (h.dep 4 rfl)) (x_gtr (h.dep 7 rfl) rfl) (congrArg Value.bool b2),
      fun s v h => does_val rfl rfl (x_pick (h.dep 4 rfl)) (h.dep 8 rfl),
      fun s v h => does_val rfl rfl (x_move) (h.dep 9 rfl),
      fun s v h => does_val rfl (wanted_by (b := false) (want := false) rfl rfl (h.dep 10 rfl)) (x_move) ((h.same 6 rfl).trans p67),
      fun s v h => does_val rfl (wanted_by (b := false) (want := false) rfl rfl (h.dep 10 rfl)) (x_move) ((h.same 5 rfl).trans p66),
      fun s v h => does_val rfl (wanted_by (b := false) (want := false) rfl rfl (h.dep 10 rfl)) (x_add (h.dep 12 rfl) rfl (by rw [IntKind.wrap_i64]; omega)) rfl,
      fun s v h => does_val rfl (wanted_by (b := false) (want := false) rfl rfl (h.dep 10 rfl)) (x_eql_int (h.dep 11 rfl) (h.dep 13 rfl)) (congrArg Value.bool b3),
      fun s v h => does_val rfl (wanted_by (b := false) (want := false) rfl rfl (h.dep 10 rfl)) (x_move) (h.dep 14 rfl),
      fun s v h => does_skip rfl (wanted_by (b := false) (want := true) rfl rfl (h.dep 15 rfl)) rfl,
      fun s v h => does_skip rfl (wanted_by (b := false) (want := true) rfl rfl (h.dep 15 rfl)) rfl,
      fun s v h => does_skip rfl (wanted_by (b := false) (want := true) rfl rfl (h.dep 15 rfl)) rfl,
      fun s v h => does_skip rfl (wanted_by (b := false) (want := true) rfl rfl (h.dep 15 rfl)) rfl,
      fun s v h => does_val rfl (wanted_by (b := false) (want := false) rfl rfl (h.dep 10 rfl)) (x_pick (h.dep 15 rfl)) rfl,
      fun s v h => does_val rfl rfl (x_pick (h.dep 10 rfl)) (h.dep 20 rfl), trivial⟩
    intro g124 ts v124 hts E124
    simp only [fillL, Nat.reduceAdd, List.setIfInBounds_toArray, List.set_cons_zero, List.set_cons_succ] at hts
    subst hts
    have T125 : Below w.heap.size w v124 := T116.trans E124.below
    have l126 : q5 < v115.heap.size := b118.lt
    have b127 : Bx v124 q5 24 #[.bool false, .slice none 0 0] := (E124.far q5 b118.lt (by simp)).trans b118
    have f128 := f119.mono E124.mono
    have e150 : g124 21 = (.bool false) := E124.facts 21 (by decide)
    refine then_normal ?_
    refine wp_cond_false e150 ?_
    refine wp_skip ?_
    refine block_normal ?_
    refine then_normal ?_
    have HB : w.heap.size ≤ v124.heap.size := T125.size
    refine wp_plan_seq [.val (.is (.int .i64 (i1 : Int))), .val (.is (.int .i64 ((i1 + 1 : Nat) : Int))), .val (.is (.int .i64 ((i1 + 1 : Nat) : Int)))] [] [] w.heap.size (by kernel_rfl) (by kernel_rfl) trivial HB ?_ ?_
    · exact ⟨fun s v h => does_val rfl rfl (x_move) ((h.soon 2 6 rfl rfl).trans p67),
      fun s v h => does_val rfl rfl (x_add (h.dep 0 rfl) rfl (by rw [IntKind.wrap_i64]; omega)) (congrArg (Value.int .i64) (by omega)),
      fun s v h => does_val rfl rfl (x_assign) (h.dep 1 rfl), trivial⟩
    intro g151 ts v151 hts E151
    simp only [fillL, Nat.reduceAdd, List.setIfInBounds_toArray, List.set_cons_zero, List.set_cons_succ] at hts
    subst hts
    have T152 : Below w.heap.size w v151 := T125.trans E151.below
    have l153 : q5 < v124.heap.size := b127.lt
    have b154 : Bx v151 q5 24 #[.bool false, .slice none 0 0] := (E151.far q5 b127.lt (by simp)).trans b127
    have f155 := f128.mono E151.mono
    have e158 : g151 2 = (.int .i64 ((i1 + 1 : Nat) : Int)) := E151.facts 2 (by decide)
    refine then_normal ?_
    exact ⟨rfl, rfl, _, (by omega), (i1 + 1), p64, p65, p66, e158, T152, b154, f155, ⟨by omega, by omega⟩, rfl⟩
  · skip
    have him : (i1 : Int) < (s.size : Int) := by omega
    have e0 : decide ((i1 : Int) < (s.size : Int)) = true := decide_eq_true him
    refine wp_seq ?_
    refine wp_seq ?_
    have HB : w.heap.size ≤ v63.heap.size := T68.size
    refine wp_plan_seq [.val (.is (.int .i64 (i1 : Int))), .val (.is (.string s)), .val (.is (.int .i64 (s.size : Int))), .val (.is (.bool true))] [] [] w.heap.size (by kernel_rfl) (by kernel_rfl) trivial HB ?_ ?_
    · exact ⟨fun s v h => does_val rfl rfl (x_move) ((h.same 6 rfl).trans p67),
      fun s v h => does_val rfl rfl (x_move) ((h.same 0 rfl).trans p65),
      fun s v h => does_val rfl rfl (x_len_str (h.dep 1 rfl)) rfl,
      fun s v h => does_val rfl rfl (x_lss (h.dep 0 rfl) (h.dep 2 rfl)) (congrArg Value.bool e0), trivial⟩
    intro g159 ts v159 hts E159
    simp only [fillL, Nat.reduceAdd, List.setIfInBounds_toArray, List.set_cons_zero, List.set_cons_succ] at hts
    subst hts
    have T160 : Below w.heap.size w v159 := T68.trans E159.below
    have l161 : q5 < v63.heap.size := b69.lt
    have b162 : Bx v159 q5 24 #[.bool false, .slice none 0 0] := (E159.far q5 b69.lt (by simp)).trans b69
    have e167 : g159 3 = (.bool true) := E159.facts 3 (by decide)
    refine then_normal ?_
    refine wp_cond_true e167 ?_
    refine wp_skip ?_
    refine then_normal ?_
    refine wp_seq ?_
    refine wp_block ?_
    refine wp_seq ?_
    have HB : w.heap.size ≤ v159.heap.size := T160.size
    refine wp_plan_seq [.val (.is (.string s)), .val (.is (.int .i64 (i1 : Int))), .val (.is (.int .u8 (byteN s i1 : Int))), .val (.is (.bool true)), .val (.is (.bool true)), .val (.is undef), .val (.is undef), .val (.is undef), .val (.is undef), .val (.is (.bool true)), .val (.is (.bool true)), .val (.is undef), .val (.is undef), .val (.is undef), .val (.is undef), .val (.is undef), .val (.is undef), .val (.is undef), .val (.is undef), .val (.is undef), .val (.is undef), .val (.is (.bool true))] [] [] w.heap.size (by kernel_rfl) (by kernel_rfl) trivial HB ?_ ?_
    · exact ⟨fun s v h => does_val rfl rfl (x_move) ((h.same 0 rfl).trans p65),
      fun s v h => does_val rfl rfl (x_move) ((h.same 6 rfl).trans p67),
      fun s v h => does_val rfl rfl (x_index_str (h.dep 0 rfl) (k := i1) (h.dep 1 rfl) (by omega)) rfl,
      fun s v h => does_val rfl rfl (x_lss (h.dep 2 rfl) rfl) (congrArg Value.bool c1),
      fun s v h => does_val rfl rfl (x_move) (h.dep 3 rfl),
      fun s v h => does_skip rfl (wanted_by (b := true) (want := false) rfl rfl (h.dep 4 rfl)) rfl,
      fun s v h => does_skip rfl (wanted_by (b := true) (want := false) rfl rfl (h.dep 4 rfl)) rfl,
      fun s v h => does_skip rfl (wanted_by (b := true) (want := false) rfl rfl (h.dep 4 rfl)) rfl,
      fun s v h => does_skip rfl (wanted_by (b := true) (want := false) rfl rfl (h.dep 4 rfl)) rfl,
      fun s v h => does_val rfl rfl (x_pick (h.dep 4 rfl)) rfl,
      fun s v h => does_val rfl rfl (x_move) (h.dep 9 rfl),
      fun s v h => does_skip rfl (wanted_by (b := true) (want := false) rfl rfl (h.dep 10 rfl)) rfl,
      fun s v h => does_skip rfl (wanted_by (b := true) (want := false) rfl rfl (h.dep 10 rfl)) rfl,
      fun s v h => does_skip rfl (wanted_by (b := true) (want := false) rfl rfl (h.dep 10 rfl)) rfl,
      fun s v h => does_skip rfl (wanted_by (b := true) (want := false) rfl rfl (h.dep 10 rfl)) rfl,
      fun s v h => does_skip rfl (wanted_by (b := true) (want := false) rfl rfl (h.dep 10 rfl)) rfl,
      fun s v h => does_skip rfl (unwanted_by (want := true) rfl rfl (h.dep 15 rfl)) rfl,
      fun s v h => does_skip rfl (unwanted_by (want := true) rfl rfl (h.dep 15 rfl)) rfl,
      fun s v h => does_skip rfl (unwanted_by (want := true) rfl rfl (h.dep 15 rfl)) rfl,
      fun s v h => does_skip rfl (unwanted_by (want := true) rfl rfl (h.dep 15 rfl)) rfl,
      fun s v h => does_skip rfl (wanted_by (b := true) (want := false) rfl rfl (h.dep 10 rfl)) rfl,
      fun s v h => does_val rfl rfl (x_pick (h.dep 10 rfl)) rfl, trivial⟩
    intro g168 ts v168 hts E168
    simp only [fillL, Nat.reduceAdd, List.setIfInBounds_toArray, List.set_cons_zero, List.set_cons_succ] at hts
    subst hts
    have T169 : Below w.heap.size w v168 := T160.trans E168.below
    have l170 : q5 < v159.heap.size := b162.lt
    have b171 : Bx v168 q5 24 #[.bool false, .slice none 0 0] := (E168.far q5 b162.lt (by simp)).trans b162
    have e194 : g168 21 = (.bool true) := E168.facts 21 (by decide)
    refine then_normal ?_
    refine wp_cond_true e194 ?_
    refine wp_seq ?_
    have HB : w.heap.size ≤ v168.heap.size := T169.size
    refine wp_plan_seq [.val (.is (.agg #[.bool false, .slice none 0 0])), .val (.is (.int .i64 (i1 : Int))), .put 2 65, .val (.is (.int .i64 (i1 : Int))), .val (.is (.int .i64 4))] [2] [q5] w.heap.size (by kernel_rfl) (by kernel_rfl) ⟨p64, b171.lt, (by simp), trivial⟩ HB ?_ ?_
    · exact ⟨fun s v h => does_val rfl rfl x_build0 rfl,
      fun s v h => does_val rfl rfl (x_move) ((h.same 6 rfl).trans p67),
      fun s v h => does_put_z rfl rfl ((h.same 2 rfl).trans p64) ⟨_, _, _, _, (h.dep 0 rfl)⟩ (h.mono.ok _ _ b171.ok2) h11,
      fun s v h => does_val rfl rfl (x_assign) (h.dep 1 rfl),
      fun s v h => does_val rfl rfl (x_assign) rfl, trivial⟩
    intro g195 ts v195 hts E195
    simp only [fillL, Nat.reduceAdd, List.setIfInBounds_toArray, List.set_cons_zero, List.set_cons_succ] at hts
    subst hts
    have T196 : Below w.heap.size w v195 := T169.trans E195.below
    have l197 : q5 < v168.heap.size := b171.lt
    have e199 : g195 0 = (.agg #[.bool false, .slice none 0 0]) := E195.facts 0 (by decide)
    have e201 : g195 3 = (.int .i64 (i1 : Int)) := E195.facts 3 (by decide)
    have e202 : g195 4 = (.int .i64 4) := E195.facts 4 (by decide)
    obtain ⟨t203, b204⟩ := put_lit (E195.facts 2 (by decide)) p64 e199
    have f205 : Cz v195 (.agg #[.bool false, .slice none 0 0]) 0 := cz_zero _
    refine then_normal ?_
    refine wp_ret ?_
    exact bodyPost_ret (ret_ctt rfl p64 b204) rfl ⟨_, rfl, ⟨_, _, _, rfl, f205, (by have := e201; rw [hlt] at this; exact this), e202⟩, T196⟩
  · skip
    have him : (i1 : Int) < (s.size : Int) := by omega
    have e0 : decide ((i1 : Int) < (s.size : Int)) = true := decide_eq_true him
    refine wp_seq ?_
    refine wp_seq ?_
    have HB : w.heap.size ≤ v63.heap.size := T68.size
    refine wp_plan_seq [.val (.is (.int .i64 (i1 : Int))), .val (.is (.string s)), .val (.is (.int .i64 (s.size : Int))), .val (.is (.bool true))] [] [] w.heap.size (by kernel_rfl) (by kernel_rfl) trivial HB ?_ ?_
    · exact ⟨fun s v h => does_val rfl rfl (x_move) ((h.same 6 rfl).trans p67),
      fun s v h => does_val rfl rfl (x_move) ((h.same 0 rfl).trans p65),
      fun s v h => does_val rfl rfl (x_len_str (h.dep 1 rfl)) rfl,
      fun s v h => does_val rfl rfl (x_lss (h.dep 0 rfl) (h.dep 2 rfl)) (congrArg Value.bool e0), trivial⟩
    intro g206 ts v206 hts E206
    simp only [fillL, Nat.reduceAdd, List.setIfInBounds_toArray, List.set_cons_zero, List.set_cons_succ] at hts
    subst hts
    have T207 : Below w.heap.size w v206 := T68.trans E206.below
    have l208 : q5 < v63.heap.size := b69.lt
    have b209 : Bx v206 q5 24 #[.bool false, .slice none 0 0] := (E206.far q5 b69.lt (by simp)).trans b69
    have e214 : g206 3 = (.bool true) := E206.facts 3 (by decide)
    refine then_normal ?_
    refine wp_cond_true e214 ?_
    refine wp_skip ?_
    refine then_normal ?_
    refine wp_seq ?_
    refine wp_block ?_
    refine wp_seq ?_
    have HB : w.heap.size ≤ v206.heap.size := T207.size
    refine wp_plan_seq [.val (.is (.string s)), .val (.is (.int .i64 (i1 : Int))), .val (.is (.int .u8 (byteN s i1 : Int))), .val (.is (.bool false)), .val (.is (.bool false)), .val (.is (.string s)), .val (.is (.int .i64 (i1 : Int))), .val (.is (.int .u8 (byteN s i1 : Int))), .val (.is (.bool true)), .val (.is (.bool true)), .val (.is (.bool true)), .val (.is undef), .val (.is undef), .val (.is undef), .val (.is undef), .val (.is undef), .val (.is undef), .val (.is undef), .val (.is undef), .val (.is undef), .val (.is undef), .val (.is (.bool true))] [] [] w.heap.size (by kernel_rfl) (by kernel_rfl) trivial HB ?_ ?_
    · exact ⟨fun s v h => does_val rfl rfl (x_move) ((h.same 0 rfl).trans p65),
      fun s v h => does_val rfl rfl (x_move) ((h.same 6 rfl).trans p67),
      fun s v h => does_val rfl rfl (x_index_str (h.dep 0 rfl) (k := i1) (h.dep 1 rfl) (by omega)) rfl,
      fun s v h => does_val rfl rfl (x_lss (h.dep 2 rfl) rfl) (congrArg Value.bool c1),
      fun s v h => does_val rfl rfl (x_move) (h.dep 3 rfl),
      fun s v h => does_val rfl (wanted_by (b := false) (want := false) rfl rfl (h.dep 4 rfl)) (x_move) ((h.same 0 rfl).trans p65),
      fun s v h => does_val rfl (wanted_by (b := false) (want := false) rfl rfl (h.dep 4 rfl)) (x_move) ((h.same 6 rfl).trans p67),
      fun s v h => does_val rfl (wanted_by (b := false) (want := false) rfl rfl (h.dep 4 rfl)) (x_index_str (h.dep 5 rfl) (k := i1) (h.dep 6 rfl) (by omega)) rfl,
      fun s v h => does_val rfl (wanted_by (b := false) (want := false) rfl rfl (h.dep 4 rfl)) (x_gtr (h.dep 7 rfl) rfl) (congrArg Value.bool c2),
      fun s v h => does_val rfl rfl (x_pick (h.dep 4 rfl)) (h.dep 8 rfl),
      fun s v h => does_val rfl rfl (x_move) (h.dep 9 rfl),
      fun s v h => does_skip rfl (wanted_by (b := true) (want := false) rfl rfl (h.dep 10 rfl)) rfl,
      fun s v h => does_skip rfl (wanted_by (b := true) (want := false) rfl rfl (h.dep 10 rfl)) rfl,
      fun s v h => does_skip rfl (wanted_by (b := true) (want := false) rfl rfl (h.dep 10 rfl)) rfl,
      fun s v h => does_skip rfl (wanted_by (b := true) (want := false) rfl rfl (h.dep 10 rfl)) rfl,
      fun s v h => does_skip rfl (wanted_by (b := true) (want := false) rfl rfl (h.dep 10 rfl)) rfl,
      fun s v h => does_skip rfl (unwanted_by (want := true) rfl rfl (h.dep 15 rfl)) rfl,
      fun s v h => does_skip rfl (unwanted_by (want := true) rfl rfl (h.dep 15 rfl)) rfl,
      fun s v h => does_skip rfl (unwanted_by (want := true) rfl rfl (h.dep 15 rfl)) rfl,
      fun s v h => does_skip rfl (unwanted_by (want := true) rfl rfl (h.dep 15 rfl)) rfl,
      fun s v h => does_skip rfl (wanted_by (b := true) (want := false) rfl rfl (h.dep 10 rfl)) rfl,
      fun s v h => does_val rfl rfl (x_pick (h.dep 10 rfl)) rfl, trivial⟩
    intro g215 ts v215 hts E215
    simp only [fillL, Nat.reduceAdd, List.setIfInBounds_toArray, List.set_cons_zero, List.set_cons_succ] at hts
    subst hts
    have T216 : Below w.heap.size w v215 := T207.trans E215.below
    have l217 : q5 < v206.heap.size := b209.lt
    have b218 : Bx v215 q5 24 #[.bool false, .slice none 0 0] := (E215.far q5 b209.lt (by simp)).trans b209
    have e241 : g215 21 = (.bool true) := E215.facts 21 (by decide)
    refine then_normal ?_
    refine wp_cond_true e241 ?_
    refine wp_seq ?_
    have HB : w.heap.size ≤ v215.heap.size := T216.size
    refine wp_plan_seq [.val (.is (.agg #[.bool false, .slice none 0 0])), .val (.is (.int .i64 (i1 : Int))), .put 2 65, .val (.is (.int .i64 (i1 : Int))), .val (.is (.int .i64 4))] [2] [q5] w.heap.size (by kernel_rfl) (by kernel_rfl) ⟨p64, b218.lt, (by simp), trivial⟩ HB ?_ ?_
    · exact ⟨fun s v h => does_val rfl rfl x_build0 rfl,
      fun s v h => does_val rfl rfl (x_move) ((h.same 6 rfl).trans p67),
      fun s v h => does_put_z rfl rfl ((h.same 2 rfl).trans p64) ⟨_, _, _, _, (h.dep 0 rfl)⟩ (h.mono.ok _ _ b218.ok2) h11,
      fun s v h => does_val rfl rfl (x_assign) (h.dep 1 rfl),
      fun s v h => does_val rfl rfl (x_assign) rfl, trivial⟩
    intro g242 ts v242 hts E242
    simp only [fillL, Nat.reduceAdd, List.setIfInBounds_toArray, List.set_cons_zero, List.set_cons_succ] at hts
    subst hts
    have T243 : Below w.heap.size w v242 := T216.trans E242.below
    have l244 : q5 < v215.heap.size := b218.lt
    have e246 : g242 0 = (.agg #[.bool false, .slice none 0 0]) := E242.facts 0 (by decide)
    have e248 : g242 3 = (.int .i64 (i1 : Int)) := E242.facts 3 (by decide)
    have e249 : g242 4 = (.int .i64 4) := E242.facts 4 (by decide)
    obtain ⟨t250, b251⟩ := put_lit (E242.facts 2 (by decide)) p64 e246
    have f252 : Cz v242 (.agg #[.bool false, .slice none 0 0]) 0 := cz_zero _
    refine then_normal ?_
    refine wp_ret ?_
    exact bodyPost_ret (ret_ctt rfl p64 b251) rfl ⟨_, rfl, ⟨_, _, _, rfl, f252, (by have := e248; rw [hlt] at this; exact this), e249⟩, T243⟩
  · skip
    have him : (i1 : Int) < (s.size : Int) := by omega
    have e0 : decide ((i1 : Int) < (s.size : Int)) = true := decide_eq_true him
    refine wp_seq ?_
    refine wp_seq ?_
    have HB : w.heap.size ≤ v63.heap.size := T68.size
    refine wp_plan_seq [.val (.is (.int .i64 (i1 : Int))), .val (.is (.string s)), .val (.is (.int .i64 (s.size : Int))), .val (.is (.bool true))] [] [] w.heap.size (by kernel_rfl) (by kernel_rfl) trivial HB ?_ ?_
    · exact ⟨fun s v h => does_val rfl rfl (x_move) ((h.same 6 rfl).trans p67),
      fun s v h => does_val rfl rfl (x_move) ((h.same 0 rfl).trans p65),
      fun s v h => does_val rfl rfl (x_len_str (h.dep 1 rfl)) rfl,
      fun s v h => does_val rfl rfl (x_lss (h.dep 0 rfl) (h.dep 2 rfl)) (congrArg Value.bool e0), trivial⟩
    intro g253 ts v253 hts E253
    simp only [fillL, Nat.reduceAdd, List.setIfInBounds_toArray, List.set_cons_zero, List.set_cons_succ] at hts
    subst hts
    have T254 : Below w.heap.size w v253 := T68.trans E253.below
    have l255 : q5 < v63.heap.size := b69.lt
    have b256 : Bx v253 q5 24 #[.bool false, .slice none 0 0] := (E253.far q5 b69.lt (by simp)).trans b69
    have e261 : g253 3 = (.bool true) := E253.facts 3 (by decide)
    refine then_normal ?_
    refine wp_cond_true e261 ?_
    refine wp_skip ?_
    refine then_normal ?_
    refine wp_seq ?_
    refine wp_block ?_
    refine wp_seq ?_
    have HB : w.heap.size ≤ v253.heap.size := T254.size
    refine wp_plan_seq [.val (.is (.string s)), .val (.is (.int .i64 (i1 : Int))), .val (.is (.int .u8 (byteN s i1 : Int))), .val (.is (.bool false)), .val (.is (.bool false)), .val (.is (.string s)), .val (.is (.int .i64 (i1 : Int))), .val (.is (.int .u8 (byteN s i1 : Int))), .val (.is (.bool false)), .val (.is (.bool false)), .val (.is (.bool false)), .val (.is (.int .i64 (i1 : Int))), .val (.is (.int .i64 0)), .val (.is (.int .i64 (0 + 1))), .val (.is (.bool true)), .val (.is (.bool true)), .val (.is (.string s)), .val (.is (.int .i64 0)), .val (.is (.int .u8 (byteN s 0 : Int))), .val (.is (.bool true)), .val (.is (.bool true)), .val (.is (.bool true))] [] [] w.heap.size (by kernel_rfl) (by kernel_rfl) trivial HB ?_ ?_
    · exact ⟨fun s v h => does_val rfl rfl (x_move) ((h.same 0 rfl).trans p65),
      fun s v h => does_val rfl rfl (x_move) ((h.same 6 rfl).trans p67),
      fun s v h => does_val rfl rfl (x_index_str (h.dep 0 rfl) (k := i1) (h.dep 1 rfl) (by omega)) rfl,
      fun s v h => does_val rfl rfl (x_lss (h.dep 2 rfl) rfl) (congrArg Value.bool c1),
      fun s v h => does_val rfl rfl (x_move) (h.dep 3 rfl),
      fun s v h => does_val rfl (wanted_by (b := false) (want := false) rfl rfl (h.dep 4 rfl)) (x_move) ((h.same 0 rfl).trans p65),
      fun s v h => does_val rfl (wanted_by (b := false) (want := false) rfl rfl (h.dep 4 rfl)) (x_move) ((h.same 6 rfl).trans p67),
      fun s v h => does_val rfl (wanted_by (b := false) (want := false) rfl rfl (h.dep 4 rfl)) (x_index_str (h.dep 5 rfl) (k := i1) (h.dep 6 rfl) (by omega)) rfl,
      fun s v h => does_val rfl (wanted_by (b := false) (want := false) rfl rfl (h.dep 4 rfl)) (x_gtr (h.dep 7 rfl) rfl) (congrArg Value.bool c2),
      fun s v h => does_val rfl rfl (x_pick (h.dep 4 rfl)) (h.dep 8 rfl),
      fun s v h => does_val rfl rfl (x_move) (h.dep 9 rfl),
      fun s v h => does_val rfl (wanted_by (b := false) (want := false) rfl rfl (h.dep 10 rfl)) (x_move) ((h.same 6 rfl).trans p67),
      fun s v h => does_val rfl (wanted_by (b := false) (want := false) rfl rfl (h.dep 10 rfl)) (x_move) ((h.same 5 rfl).trans p66),
      fun s v h => does_val rfl (wanted_by (b := false) (want := false) rfl rfl (h.dep 10 rfl)) (x_add (h.dep 12 rfl) rfl (by rw [IntKind.wrap_i64]; omega)) rfl,
      fun s v h => does_val rfl (wanted_by (b := false) (want := false) rfl rfl (h.dep 10 rfl)) (x_eql_int (h.dep 11 rfl) (h.dep 13 rfl)) (congrArg Value.bool c3),
      fun s v h => does_val rfl (wanted_by (b := false) (want := false) rfl rfl (h.dep 10 rfl)) (x_move) (h.dep 14 rfl),
      fun s v h => does_val rfl (wanted_by (b := true) (want := true) rfl rfl (h.dep 15 rfl)) (x_move) ((h.same 0 rfl).trans p65),
      fun s v h => does_val rfl (wanted_by (b := true) (want := true) rfl rfl (h.dep 15 rfl)) (x_move) ((h.same 5 rfl).trans p66),
      fun s v h => does_val rfl (wanted_by (b := true) (want := true) rfl rfl (h.dep 15 rfl)) (x_index_str (h.dep 16 rfl) (k := 0) (h.dep 17 rfl) (by omega)) rfl,
      fun s v h => does_val rfl (wanted_by (b := true) (want := true) rfl rfl (h.dep 15 rfl)) (x_eql_u8 (h.dep 18 rfl) rfl) (congrArg Value.bool c4),
      fun s v h => does_val rfl (wanted_by (b := false) (want := false) rfl rfl (h.dep 10 rfl)) (x_pick (h.dep 15 rfl)) (h.dep 19 rfl),
      fun s v h => does_val rfl rfl (x_pick (h.dep 10 rfl)) (h.dep 20 rfl), trivial⟩
    intro g262 ts v262 hts E262
    simp only [fillL, Nat.reduceAdd, List.setIfInBounds_toArray, List.set_cons_zero, List.set_cons_succ] at hts
    subst hts
    have T263 : Below w.heap.size w v262 := T254.trans E262.below
    have l264 : q5 < v253.heap.size := b256.lt
    have b265 : Bx v262 q5 24 #[.bool false, .slice none 0 0] := (E262.far q5 b256.lt (by simp)).trans b256
    have e288 : g262 21 = (.bool true) := E262.facts 21 (by decide)
    refine then_normal ?_
    refine wp_cond_true e288 ?_
    refine wp_seq ?_
    have HB : w.heap.size ≤ v262.heap.size := T263.size
    refine wp_plan_seq [.val (.is (.agg #[.bool false, .slice none 0 0])), .val (.is (.int .i64 (i1 : Int))), .put 2 65, .val (.is (.int .i64 (i1 : Int))), .val (.is (.int .i64 4))] [2] [q5] w.heap.size (by kernel_rfl) (by kernel_rfl) ⟨p64, b265.lt, (by simp), trivial⟩ HB ?_ ?_
    · exact ⟨fun s v h => does_val rfl rfl x_build0 rfl,
      fun s v h => does_val rfl rfl (x_move) ((h.same 6 rfl).trans p67),
      fun s v h => does_put_z rfl rfl ((h.same 2 rfl).trans p64) ⟨_, _, _, _, (h.dep 0 rfl)⟩ (h.mono.ok _ _ b265.ok2) h11,
      fun s v h => does_val rfl rfl (x_assign) (h.dep 1 rfl),
      fun s v h => does_val rfl rfl (x_assign) rfl, trivial⟩
    intro g289 ts v289 hts E289
    simp only [fillL, Nat.reduceAdd, List.setIfInBounds_toArray, List.set_cons_zero, List.set_cons_succ] at hts
    subst hts
    have T290 : Below w.heap.size w v289 := T263.trans E289.below
    have l291 : q5 < v262.heap.size := b265.lt
    have e293 : g289 0 = (.agg #[.bool false, .slice none 0 0]) := E289.facts 0 (by decide)
    have e295 : g289 3 = (.int .i64 (i1 : Int)) := E289.facts 3 (by decide)
    have e296 : g289 4 = (.int .i64 4) := E289.facts 4 (by decide)
    obtain ⟨t297, b298⟩ := put_lit (E289.facts 2 (by decide)) p64 e293
    have f299 : Cz v289 (.agg #[.bool false, .slice none 0 0]) 0 := cz_zero _
    refine then_normal ?_
    refine wp_ret ?_
    exact bodyPost_ret (ret_ctt rfl p64 b298) rfl ⟨_, rfl, ⟨_, _, _, rfl, f299, (by have := e295; rw [hlt] at this; exact this), e296⟩, T290⟩

set_option maxHeartbeats 4000000 in
set_option maxRecDepth 8000 in
theorem zread_ok0 {w : World} {s : ByteArray} (d1 : decide ((65536 : Int) < (s.size : Int)) = false) (dp : decide ((0 : Int) < (s.size : Int)) = true) (hs0 : 0 < s.size) (dm : ((byteN s 0 : Int) == 45) = false) (dn : ((0 : Int) == (s.size : Int)) = false) {m : Nat} (hms : m = s.size) (HG : Hid (∀ j, 0 ≤ j → j < m → ¬ BadF s 0 j)) (HD : Hid (∀ j, 0 ≤ j → j < s.size → 48 ≤ byteN s j ∧ byteN s j ≤ 57))  : Calls Try.prog 99 #[.string s] w (Ret (.tup3 (.cz (zof false (dvFrom s 0 (s.size - 0)))) (.is (.int .i64 0)) (.is (.int .i64 0))) w) := by
  have hsz : s.size ≤ 65536 := by have := of_decide_eq_false d1; omega
  have T0 : Below w.heap.size w w := Below.refl _ _
  go_enter Try.func99, Try.ntmps99
  refine wp_seq ?_
  have HB : w.heap.size ≤ w.heap.size := T0.size
  refine wp_plan_seq [.new 2 (some (24, #[.bool false, .slice none 0 0])), .val (.is (.int .i64 0)), .val (.is (.int .i64 0))] [] [] w.heap.size (by kernel_rfl) (by kernel_rfl) trivial HB ?_ ?_
  · exact ⟨fun s v h => does_new rfl rfl x_alloc_z (okz _ _ _ _) rfl (.inr rfl),
      fun s v h => does_val rfl rfl (x_assign) rfl,
      fun s v h => does_val rfl rfl (x_assign) rfl, trivial⟩
  intro g300 ts v300 hts E300
  simp only [fillL, Nat.reduceAdd, List.setIfInBounds_toArray, List.set_cons_zero, List.set_cons_succ] at hts
  subst hts
  have T301 : Below w.heap.size w v300 := T0.trans E300.below
  obtain ⟨q304, p305, l306, o307, b308⟩ : ∃ q, g300 0 = .pointer (some ⟨q, 0, none⟩) ∧ w.heap.size ≤ q ∧ OkB v300 q 2 ∧ Bx v300 q 24 #[.bool false, .slice none 0 0] := E300.facts 0 (by decide)
  have f309 : Cz v300 (.agg #[.bool false, .slice none 0 0]) 0 := cz_zero _
  have h310 : w.heap.size ≤ q304 := Nat.le_trans HB l306
  refine then_normal ?_
  refine wp_seq ?_
  refine wp_seq ?_
  have HB : w.heap.size ≤ v300.heap.size := T301.size
  refine wp_plan_seq [.val (.is (.string s)), .val (.is (.int .i64 (s.size : Int))), .val (.is (.bool false))] [] [] w.heap.size (by kernel_rfl) (by kernel_rfl) trivial HB ?_ ?_
  · exact ⟨fun s v h => does_val rfl rfl (x_move) (h.same 0 rfl),
      fun s v h => does_val rfl rfl (x_len_str (h.dep 0 rfl)) rfl,
      fun s v h => does_val rfl rfl (x_gtr (h.dep 1 rfl) rfl) (congrArg Value.bool d1), trivial⟩
  intro g311 ts v311 hts E311
  simp only [fillL, Nat.reduceAdd, List.setIfInBounds_toArray, List.set_cons_zero, List.set_cons_succ] at hts
  subst hts
  have T312 : Below w.heap.size w v311 := T301.trans E311.below
  have l313 : q304 < v300.heap.size := b308.lt
  have b314 : Bx v311 q304 24 #[.bool false, .slice none 0 0] := (E311.far q304 b308.lt (by simp)).trans b308
  have f315 := f309.mono E311.mono
  have e318 : g311 2 = (.bool false) := E311.facts 2 (by decide)
  refine then_normal ?_
  refine wp_cond_false e318 ?_
  refine wp_skip ?_
  refine then_normal ?_
  refine wp_seq ?_
  have HB : w.heap.size ≤ v311.heap.size := T312.size
  refine wp_plan_seq [.val (.is (.int .i64 0))] [] [] w.heap.size (by kernel_rfl) (by kernel_rfl) trivial HB ?_ ?_
  · exact ⟨fun s v h => does_val rfl rfl (x_assign) rfl, trivial⟩
  intro g319 ts v319 hts E319
  simp only [fillL, List.setIfInBounds_toArray, List.set_cons_zero, List.set_cons_succ] at hts
  subst hts
  have T320 : Below w.heap.size w v319 := T312.trans E319.below
  have l321 : q304 < v311.heap.size := b314.lt
  have b322 : Bx v319 q304 24 #[.bool false, .slice none 0 0] := (E319.far q304 b314.lt (by simp)).trans b314
  have f323 := f315.mono E319.mono
  have e324 : g319 0 = (.int .i64 0) := E319.facts 0 (by decide)
  refine then_normal ?_
  refine wp_seq ?_
  refine wp_seq ?_
  have HB : w.heap.size ≤ v319.heap.size := T320.size
  refine wp_plan_seq [.val (.is (.string s)), .val (.is (.int .i64 (s.size : Int))), .val (.is (.bool true)), .val (.is (.bool true)), .val (.is (.string s)), .val (.is (.int .u8 (byteN s 0 : Int))), .val (.is (.bool false)), .val (.is (.bool false))] [] [] w.heap.size (by kernel_rfl) (by kernel_rfl) trivial HB ?_ ?_
  · exact ⟨fun s v h => does_val rfl rfl (x_move) (h.same 0 rfl),
      fun s v h => does_val rfl rfl (x_len_str (h.dep 0 rfl)) rfl,
      fun s v h => does_val rfl rfl (x_gtr (h.dep 1 rfl) rfl) (congrArg Value.bool dp),
      fun s v h => does_val rfl rfl (x_move) (h.dep 2 rfl),
      fun s v h => does_val rfl (wanted_by (b := true) (want := true) rfl rfl (h.dep 3 rfl)) (x_move) (h.same 0 rfl),
      fun s v h => does_val rfl (wanted_by (b := true) (want := true) rfl rfl (h.dep 3 rfl)) (x_index_str (h.dep 4 rfl) (k := 0) rfl (by omega)) rfl,
      fun s v h => does_val rfl (wanted_by (b := true) (want := true) rfl rfl (h.dep 3 rfl)) (x_eql_u8 (h.dep 5 rfl) rfl) (congrArg Value.bool dm),
      fun s v h => does_val rfl rfl (x_pick (h.dep 3 rfl)) (h.dep 6 rfl), trivial⟩
  intro g325 ts v325 hts E325
  simp only [fillL, Nat.reduceAdd, List.setIfInBounds_toArray, List.set_cons_zero, List.set_cons_succ] at hts
  subst hts
  have T326 : Below w.heap.size w v325 := T320.trans E325.below
  have l327 : q304 < v319.heap.size := b322.lt
  have b328 : Bx v325 q304 24 #[.bool false, .slice none 0 0] := (E325.far q304 b322.lt (by simp)).trans b322
  have f329 := f323.mono E325.mono
  have e337 : g325 7 = (.bool false) := E325.facts 7 (by decide)
  refine then_normal ?_
  refine wp_cond_false e337 ?_
  refine wp_skip ?_
  refine then_normal ?_
  refine wp_seq ?_
  refine wp_seq ?_
  have HB : w.heap.size ≤ v325.heap.size := T326.size
  refine wp_plan_seq [.val (.is (.int .i64 0)), .val (.is (.bool false)), .val (.is (.bool false)), .val (.is undef), .val (.is undef), .val (.is undef), .val (.is (.bool false)), .val (.is (.bool false)), .val (.is undef), .val (.is undef), .val (.is undef), .val (.is (.bool false))] [] [] w.heap.size (by kernel_rfl) (by kernel_rfl) trivial HB ?_ ?_
  · exact ⟨fun s v h => does_val rfl rfl (x_move) ((h.same 5 rfl).trans e324),
      fun s v h => does_val rfl rfl (x_eql_int (h.dep 0 rfl) rfl) rfl,
      fun s v h => does_val rfl rfl (x_move) (h.dep 1 rfl),
      fun s v h => does_skip rfl (wanted_by (b := false) (want := true) rfl rfl (h.dep 2 rfl)) rfl,
      fun s v h => does_skip rfl (wanted_by (b := false) (want := true) rfl rfl (h.dep 2 rfl)) rfl,
      fun s v h => does_skip rfl (wanted_by (b := false) (want := true) rfl rfl (h.dep 2 rfl)) rfl,
      fun s v h => does_val rfl rfl (x_pick (h.dep 2 rfl)) rfl,
      fun s v h => does_val rfl rfl (x_move) (h.dep 6 rfl),
      fun s v h => does_skip rfl (wanted_by (b := false) (want := true) rfl rfl (h.dep 7 rfl)) rfl,
      fun s v h => does_skip rfl (wanted_by (b := false) (want := true) rfl rfl (h.dep 7 rfl)) rfl,
      fun s v h => does_skip rfl (wanted_by (b := false) (want := true) rfl rfl (h.dep 7 rfl)) rfl,
      fun s v h => does_val rfl rfl (x_pick (h.dep 7 rfl)) rfl, trivial⟩
  intro g338 ts v338 hts E338
  simp only [fillL, Nat.reduceAdd, List.setIfInBounds_toArray, List.set_cons_zero, List.set_cons_succ] at hts
  subst hts
  have T339 : Below w.heap.size w v338 := T326.trans E338.below
  have l340 : q304 < v325.heap.size := b328.lt
  have b341 : Bx v338 q304 24 #[.bool false, .slice none 0 0] := (E338.far q304 b328.lt (by simp)).trans b328
  have f342 := f329.mono E338.mono
  have e354 : g338 11 = (.bool false) := E338.facts 11 (by decide)
  refine then_normal ?_
  refine wp_cond_false e354 ?_
  refine wp_skip ?_
  refine then_normal ?_
  refine wp_seq ?_
  refine wp_seq ?_
  have HB : w.heap.size ≤ v338.heap.size := T339.size
  refine wp_plan_seq [.val (.is (.int .i64 0)), .val (.is (.int .i64 0))] [] [] w.heap.size (by kernel_rfl) (by kernel_rfl) trivial HB ?_ ?_
  · exact ⟨fun s v h => does_val rfl rfl (x_move) ((h.same 5 rfl).trans e324),
      fun s v h => does_val rfl rfl (x_assign) (h.dep 0 rfl), trivial⟩
  intro g355 ts v355 hts E355
  simp only [fillL, Nat.reduceAdd, List.setIfInBounds_toArray, List.set_cons_zero, List.set_cons_succ] at hts
  subst hts
  have T356 : Below w.heap.size w v355 := T339.trans E355.below
  have l357 : q304 < v338.heap.size := b341.lt
  have b358 : Bx v355 q304 24 #[.bool false, .slice none 0 0] := (E355.far q304 b341.lt (by simp)).trans b341
  have f359 := f342.mono E355.mono
  have e361 : g355 1 = (.int .i64 0) := E355.facts 1 (by decide)
  refine then_normal ?_
  refine wp_block ?_
  refine wp_loop_v 109 (fun k y wL => ∃ (i1 : Nat), y 2 = .pointer (some ⟨q304, 0, none⟩) ∧ y 0 = (.string s) ∧ y 5 = (.int .i64 0) ∧ y 6 = (.int .i64 (i1 : Int)) ∧ Below w.heap.size w wL ∧ Bx wL q304 24 #[.bool false, .slice none 0 0] ∧ Cz wL (.agg #[.bool false, .slice none 0 0]) 0 ∧ (0 ≤ i1 ∧ i1 ≤ m) ∧ k = m - i1) rfl rfl ⟨_, 0, p305, rfl, e324, e361, T356, b358, f359, ⟨by omega, by omega⟩, rfl⟩ ?_
  rintro k y362 v362 ⟨i1, p363, p364, p365, p366, T367, b368, f369, ⟨j1, j2⟩, hk⟩
  have hlit : litv 109 y362 = #[y362 0, y362 1, y362 2, y362 3, y362 4, y362 5, y362 6, y362 7, y362 8, y362 9, y362 10, y362 11, y362 12, y362 13, y362 14, y362 15, y362 16, y362 17, y362 18, y362 19, y362 20, y362 21, y362 22, y362 23, y362 24, y362 25, y362 26, y362 27, y362 28, y362 29, y362 30, y362 31, y362 32, y362 33, y362 34, y362 35, y362 36, y362 37, y362 38, y362 39, y362 40, y362 41, y362 42, y362 43, y362 44, y362 45, y362 46, y362 47, y362 48, y362 49, y362 50, y362 51, y362 52, y362 53, y362 54, y362 55, y362 56, y362 57, y362 58, y362 59, y362 60, y362 61, y362 62, y362 63, y362 64, y362 65, y362 66, y362 67, y362 68, y362 69, y362 70, y362 71, y362 72, y362 73, y362 74, y362 75, y362 76, y362 77, y362 78, y362 79, y362 80, y362 81, y362 82, y362 83, y362 84, y362 85, y362 86, y362 87, y362 88, y362 89, y362 90, y362 91, y362 92, y362 93, y362 94, y362 95, y362 96, y362 97, y362 98, y362 99, y362 100, y362 101, y362 102, y362 103, y362 104, y362 105, y362 106, y362 107, y362 108] := rfl
  rw [hlit]
  clear hlit
  rcases scan_ways HG j1 j2 with ⟨hlt, b1, b2, b3, b4⟩ | ⟨hlt, b1, b2, b3⟩ | hlt
  · skip
    have him : (i1 : Int) < (s.size : Int) := by omega
    have e0 : decide ((i1 : Int) < (s.size : Int)) = true := decide_eq_true him
    refine wp_seq ?_
    refine wp_seq ?_
    have HB : w.heap.size ≤ v362.heap.size := T367.size
    refine wp_plan_seq [.val (.is (.int .i64 (i1 : Int))), .val (.is (.string s)), .val (.is (.int .i64 (s.size : Int))), .val (.is (.bool true))] [] [] w.heap.size (by kernel_rfl) (by kernel_rfl) trivial HB ?_ ?_
    · exact ⟨fun s v h => does_val rfl rfl (x_move) ((h.same 6 rfl).trans p366),
      fun s v h => does_val rfl rfl (x_move) ((h.same 0 rfl).trans p364),
      fun s v h => does_val rfl rfl (x_len_str (h.dep 1 rfl)) rfl,
      fun s v h => does_val rfl rfl (x_lss (h.dep 0 rfl) (h.dep 2 rfl)) (congrArg Value.bool e0), trivial⟩
    intro g370 ts v370 hts E370
    simp only [fillL, Nat.reduceAdd, List.setIfInBounds_toArray, List.set_cons_zero, List.set_cons_succ] at hts
    subst hts
    have T371 : Below w.heap.size w v370 := T367.trans E370.below
    have l372 : q304 < v362.heap.size := b368.lt
    have b373 : Bx v370 q304 24 #[.bool false, .slice none 0 0] := (E370.far q304 b368.lt (by simp)).trans b368
    have f374 := f369.mono E370.mono
    have e378 : g370 3 = (.bool true) := E370.facts 3 (by decide)
    refine then_normal ?_
    refine wp_cond_true e378 ?_
    refine wp_skip ?_
    refine then_normal ?_
    refine wp_seq ?_
    refine wp_block ?_
    refine wp_seq ?_
    have HB : w.heap.size ≤ v370.heap.size := T371.size
    refine wp_plan_seq [.val (.is (.string s)), .val (.is (.int .i64 (i1 : Int))), .val (.is (.int .u8 (byteN s i1 : Int))), .val (.is (.bool false)), .val (.is (.bool false)), .val (.is (.string s)), .val (.is (.int .i64 (i1 : Int))), .val (.is (.int .u8 (byteN s i1 : Int))), .val (.is (.bool false)), .val (.is (.bool false)), .val (.is (.bool false)), .val (.is (.int .i64 (i1 : Int))), .val (.is (.int .i64 0)), .val (.is (.int .i64 (0 + 1))), .val (.is (.bool true)), .val (.is (.bool true)), .val (.is (.string s)), .val (.is (.int .i64 0)), .val (.is (.int .u8 (byteN s 0 : Int))), .val (.is (.bool false)), .val (.is (.bool false)), .val (.is (.bool false))] [] [] w.heap.size (by kernel_rfl) (by kernel_rfl) trivial HB ?_ ?_
    · exact ⟨fun s v h => does_val rfl rfl (x_move) ((h.same 0 rfl).trans p364),
      fun s v h => does_val rfl rfl (x_move) ((h.same 6 rfl).trans p366),
      fun s v h => does_val rfl rfl (x_index_str (h.dep 0 rfl) (k := i1) (h.dep 1 rfl) (by omega)) rfl,
      fun s v h => does_val rfl rfl (x_lss (h.dep 2 rfl) rfl) (congrArg Value.bool b1),
      fun s v h => does_val rfl rfl (x_move) (h.dep 3 rfl),
      fun s v h => does_val rfl (wanted_by (b := false) (want := false) rfl rfl (h.dep 4 rfl)) (x_move) ((h.same 0 rfl).trans p364),
      fun s v h => does_val rfl (wanted_by (b := false) (want := false) rfl rfl (h.dep 4 rfl)) (x_move) ((h.same 6 rfl).trans p366),
      fun s v h => does_val rfl (wanted_by (b := false) (want := false) rfl rfl (h.dep 4 rfl)) (x_index_str (h.dep 5 rfl) (k := i1) (h.dep 6 rfl) (by omega)) rfl,
      fun s v h => does_val rfl (wanted_by (b := false) (want := false) rfl rfl (h.dep 4 rfl)) (x_gtr (h.dep 7 rfl) rfl) (congrArg Value.bool b2),
      fun s v h => does_val rfl rfl (x_pick (h.dep 4 rfl)) (h.dep 8 rfl),
      fun s v h => does_val rfl rfl (x_move) (h.dep 9 rfl),
      fun s v h => does_val rfl (wanted_by (b := false) (want := false) rfl rfl (h.dep 10 rfl)) (x_move) ((h.same 6 rfl).trans p366),
      fun s v h => does_val rfl (wanted_by (b := false) (want := false) rfl rfl (h.dep 10 rfl)) (x_move) ((h.same 5 rfl).trans p365),
      fun s v h => does_val rfl (wanted_by (b := false) (want := false) rfl rfl (h.dep 10 rfl)) (x_add (h.dep 12 rfl) rfl (by rw [IntKind.wrap_i64]; omega)) rfl,
      fun s v h => does_val rfl (wanted_by (b := false) (want := false) rfl rfl (h.dep 10 rfl)) (x_eql_int (h.dep 11 rfl) (h.dep 13 rfl)) (congrArg Value.bool b3),
      fun s v h => does_val rfl (wanted_by (b := false) (want := false) rfl rfl (h.dep 10 rfl)) (x_move) (h.dep 14 rfl),
      fun s v h => does_val rfl (wanted_by (b := true) (want := true) rfl rfl (h.dep 15 rfl)) (x_move) ((h.same 0 rfl).trans p364),
      fun s v h => does_val rfl (wanted_by (b := true) (want := true) rfl rfl (h.dep 15 rfl)) (x_move) ((h.same 5 rfl).trans p365),
      fun s v h => does_val rfl (wanted_by (b := true) (want := true) rfl rfl (h.dep 15 rfl)) (x_index_str (h.dep 16 rfl) (k := 0) (h.dep 17 rfl) (by omega)) rfl,
      fun s v h => does_val rfl (wanted_by (b := true) (want := true) rfl rfl (h.dep 15 rfl)) (x_eql_u8 (h.dep 18 rfl) rfl) (congrArg Value.bool b4),
      fun s v h => does_val rfl (wanted_by (b := false) (want := false) rfl rfl (h.dep 10 rfl)) (x_pick (h.dep 15 rfl)) (h.dep 19 rfl),
      fun s v h => does_val rfl rfl (x_pick (h.dep 10 rfl)) (h.dep 20 rfl), trivial⟩
    intro g379 ts v379 hts E379
    simp only [fillL, Nat.reduceAdd, List.setIfInBounds_toArray, List.set_cons_zero, List.set_cons_succ] at hts
    subst hts
    have T380 : Below w.heap.size w v379 := T371.trans E379.below
    have l381 : q304 < v370.heap.size := b373.lt
    have b382 : Bx v379 q304 24 #[.bool false, .slice none 0 0] := (E379.far q304 b373.lt (by simp)).trans b373
    have f383 := f374.mono E379.mono
    have e405 : g379 21 = (.bool false) := E379.facts 21 (by decide)
    refine then_normal ?_
    refine wp_cond_false e405 ?_
    refine wp_skip ?_
    refine block_normal ?_
    refine then_normal ?_
    have HB : w.heap.size ≤ v379.heap.size := T380.size
    refine wp_plan_seq [.val (.is (.int .i64 (i1 : Int))), .val (.is (.int .i64 ((i1 + 1 : Nat) : Int))), .val (.is (.int .i64 ((i1 + 1 : Nat) : Int)))] [] [] w.heap.size (by kernel_rfl) (by kernel_rfl) trivial HB ?_ ?_
    · exact ⟨fun s v h => does_val rfl rfl (x_move) ((h.soon 2 6 rfl rfl).trans p366),
      fun s v h => does_val rfl rfl (x_add (h.dep 0 rfl) rfl (by rw [IntKind.wrap_i64]; omega)) (congrArg (Value.int .i64) (by omega)),
      fun s v h => does_val rfl rfl (x_assign) (h.dep 1 rfl), trivial⟩
    intro g406 ts v406 hts E406
    simp only [fillL, Nat.reduceAdd, List.setIfInBounds_toArray, List.set_cons_zero, List.set_cons_succ] at hts
    subst hts
    have T407 : Below w.heap.size w v406 := T380.trans E406.below
    have l408 : q304 < v379.heap.size := b382.lt
    have b409 : Bx v406 q304 24 #[.bool false, .slice none 0 0] := (E406.far q304 b382.lt (by simp)).trans b382
    have f410 := f383.mono E406.mono
    have e413 : g406 2 = (.int .i64 ((i1 + 1 : Nat) : Int)) := E406.facts 2 (by decide)
    refine then_normal ?_
    exact ⟨rfl, rfl, _, (by omega), (i1 + 1), p363, p364, p365, e413, T407, b409, f410, ⟨by omega, by omega⟩, rfl⟩
  · skip
    have him : (i1 : Int) < (s.size : Int) := by omega
    have e0 : decide ((i1 : Int) < (s.size : Int)) = true := decide_eq_true him
    refine wp_seq ?_
    refine wp_seq ?_
    have HB : w.heap.size ≤ v362.heap.size := T367.size
    refine wp_plan_seq [.val (.is (.int .i64 (i1 : Int))), .val (.is (.string s)), .val (.is (.int .i64 (s.size : Int))), .val (.is (.bool true))] [] [] w.heap.size (by kernel_rfl) (by kernel_rfl) trivial HB ?_ ?_
    · exact ⟨fun s v h => does_val rfl rfl (x_move) ((h.same 6 rfl).trans p366),
      fun s v h => does_val rfl rfl (x_move) ((h.same 0 rfl).trans p364),
      fun s v h => does_val rfl rfl (x_len_str (h.dep 1 rfl)) rfl,
      fun s v h => does_val rfl rfl (x_lss (h.dep 0 rfl) (h.dep 2 rfl)) (congrArg Value.bool e0), trivial⟩
    intro g414 ts v414 hts E414
    simp only [fillL, Nat.reduceAdd, List.setIfInBounds_toArray, List.set_cons_zero, List.set_cons_succ] at hts
    subst hts
    have T415 : Below w.heap.size w v414 := T367.trans E414.below
    have l416 : q304 < v362.heap.size := b368.lt
    have b417 : Bx v414 q304 24 #[.bool false, .slice none 0 0] := (E414.far q304 b368.lt (by simp)).trans b368
    have f418 := f369.mono E414.mono
    have e422 : g414 3 = (.bool true) := E414.facts 3 (by decide)
    refine then_normal ?_
    refine wp_cond_true e422 ?_
    refine wp_skip ?_
    refine then_normal ?_
    refine wp_seq ?_
    refine wp_block ?_
    refine wp_seq ?_
    have HB : w.heap.size ≤ v414.heap.size := T415.size
    refine wp_plan_seq [.val (.is (.string s)), .val (.is (.int .i64 (i1 : Int))), .val (.is (.int .u8 (byteN s i1 : Int))), .val (.is (.bool false)), .val (.is (.bool false)), .val (.is (.string s)), .val (.is (.int .i64 (i1 : Int))), .val (.is (.int .u8 (byteN s i1 : Int))), .val (.is (.bool false)), .val (.is (.bool false)), .val (.is (.bool false)), .val (.is (.int .i64 (i1 : Int))), .val (.is (.int .i64 0)), .val (.is (.int .i64 (0 + 1))), .val (.is (.bool false)), .val (.is (.bool false)), .val (.is undef), .val (.is undef), .val (.is undef), .val (.is undef), .val (.is (.bool false)), .val (.is (.bool false))] [] [] w.heap.size (by kernel_rfl) (by kernel_rfl) trivial HB ?_ ?_
    · exact ⟨fun s v h => does_val rfl rfl (x_move) ((h.same 0 rfl).trans p364),
      fun s v h => does_val rfl rfl (x_move) ((h.same 6 rfl).trans p366),
      fun s v h => does_val rfl rfl (x_index_str (h.dep 0 rfl) (k := i1) (h.dep 1 rfl) (by omega)) rfl,
      fun s v h => does_val rfl rfl (x_lss (h.dep 2 rfl) rfl) (congrArg Value.bool b1),
      fun s v h => does_val rfl rfl (x_move) (h.dep 3 rfl),
      fun s v h => does_val rfl (wanted_by (b := false) (want := false) rfl rfl (h.dep 4 rfl)) (x_move) ((h.same 0 rfl).trans p364),
      fun s v h => does_val rfl (wanted_by (b := false) (want := false) rfl rfl (h.dep 4 rfl)) (x_move) ((h.same 6 rfl).trans p366),
      fun s v h => does_val rfl (wanted_by (b := false) (want := false) rfl rfl (h.dep 4 rfl)) (x_index_str (h.dep 5 rfl) (k := i1) (h.dep 6 rfl) (by omega)) rfl,
      fun s v h => does_val rfl (wanted_by (b := false) (want := false) rfl rfl (h.dep 4 rfl)) (x_gtr (h.dep 7 rfl) rfl) (congrArg Value.bool b2),
      fun s v h => does_val rfl rfl (x_pick (h.dep 4 rfl)) (h.dep 8 rfl),
      fun s v h => does_val rfl rfl (x_move) (h.dep 9 rfl),
      fun s v h => does_val rfl (wanted_by (b := false) (want := false) rfl rfl (h.dep 10 rfl)) (x_move) ((h.same 6 rfl).trans p366),
      fun s v h => does_val rfl (wanted_by (b := false) (want := false) rfl rfl (h.dep 10 rfl)) (x_move) ((h.same 5 rfl).trans p365),
      fun s v h => does_val rfl (wanted_by (b := false) (want := false) rfl rfl (h.dep 10 rfl)) (x_add (h.dep 12 rfl) rfl (by rw [IntKind.wrap_i64]; omega)) rfl,
      fun s v h => does_val rfl (wanted_by (b := false) (want := false) rfl rfl (h.dep 10 rfl)) (x_eql_int (h.dep 11 rfl) (h.dep 13 rfl)) (congrArg Value.bool b3),
      fun s v h => does_val rfl (wanted_by (b := false) (want := false) rfl rfl (h.dep 10 rfl)) (x_move) (h.dep 14 rfl),
      fun s v h => does_skip rfl (wanted_by (b := false) (want := true) rfl rfl (h.dep 15 rfl)) rfl,
      fun s v h => does_skip rfl (wanted_by (b := false) (want := true) rfl rfl (h.dep 15 rfl)) rfl,
      fun s v h => does_skip rfl (wanted_by (b := false) (want := true) rfl rfl (h.dep 15 rfl)) rfl,
      fun s v h => does_skip rfl (wanted_by (b := false) (want := true) rfl rfl (h.dep 15 rfl)) rfl,
      fun s v h => does_val rfl (wanted_by (b := false) (want := false) rfl rfl (h.dep 10 rfl)) (x_pick (h.dep 15 rfl)) rfl,
      fun s v h => does_val rfl rfl (x_pick (h.dep 10 rfl)) (h.dep 20 rfl), trivial⟩
    intro g423 ts v423 hts E423
    simp only [fillL, Nat.reduceAdd, List.setIfInBounds_toArray, List.set_cons_zero, List.set_cons_succ] at hts
    subst hts
    have T424 : Below w.heap.size w v423 := T415.trans E423.below
    have l425 : q304 < v414.heap.size := b417.lt
    have b426 : Bx v423 q304 24 #[.bool false, .slice none 0 0] := (E423.far q304 b417.lt (by simp)).trans b417
    have f427 := f418.mono E423.mono
    have e449 : g423 21 = (.bool false) := E423.facts 21 (by decide)
    refine then_normal ?_
    refine wp_cond_false e449 ?_
    refine wp_skip ?_
    refine block_normal ?_
    refine then_normal ?_
    have HB : w.heap.size ≤ v423.heap.size := T424.size
    refine wp_plan_seq [.val (.is (.int .i64 (i1 : Int))), .val (.is (.int .i64 ((i1 + 1 : Nat) : Int))), .val (.is (.int .i64 ((i1 + 1 : Nat) : Int)))] [] [] w.heap.size (by kernel_rfl) (by kernel_rfl) trivial HB ?_ ?_
    · exact ⟨fun s v h => does_val rfl rfl (x_move) ((h.soon 2 6 rfl rfl).trans p366),
      fun s v h => does_val rfl rfl (x_add (h.dep 0 rfl) rfl (by rw [IntKind.wrap_i64]; omega)) (congrArg (Value.int .i64) (by omega)),
      fun s v h => does_val rfl rfl (x_assign) (h.dep 1 rfl), trivial⟩
    intro g450 ts v450 hts E450
    simp only [fillL, Nat.reduceAdd, List.setIfInBounds_toArray, List.set_cons_zero, List.set_cons_succ] at hts
    subst hts
    have T451 : Below w.heap.size w v450 := T424.trans E450.below
    have l452 : q304 < v423.heap.size := b426.lt
    have b453 : Bx v450 q304 24 #[.bool false, .slice none 0 0] := (E450.far q304 b426.lt (by simp)).trans b426
    have f454 := f427.mono E450.mono
    have e457 : g450 2 = (.int .i64 ((i1 + 1 : Nat) : Int)) := E450.facts 2 (by decide)
    refine then_normal ?_
    exact ⟨rfl, rfl, _, (by omega), (i1 + 1), p363, p364, p365, e457, T451, b453, f454, ⟨by omega, by omega⟩, rfl⟩
  · skip
    have hmm : m = s.size := hms
    have e0 : decide ((i1 : Int) < (s.size : Int)) = false := decide_eq_false (by omega)
    refine wp_seq ?_
    refine wp_seq ?_
    have HB : w.heap.size ≤ v362.heap.size := T367.size
    refine wp_plan_seq [.val (.is (.int .i64 (i1 : Int))), .val (.is (.string s)), .val (.is (.int .i64 (s.size : Int))), .val (.is (.bool false))] [] [] w.heap.size (by kernel_rfl) (by kernel_rfl) trivial HB ?_ ?_
    · exact ⟨fun s v h => does_val rfl rfl (x_move) ((h.same 6 rfl).trans p366),
      fun s v h => does_val rfl rfl (x_move) ((h.same 0 rfl).trans p364),
      fun s v h => does_val rfl rfl (x_len_str (h.dep 1 rfl)) rfl,
      fun s v h => does_val rfl rfl (x_lss (h.dep 0 rfl) (h.dep 2 rfl)) (congrArg Value.bool e0), trivial⟩
    intro g458 ts v458 hts E458
    simp only [fillL, Nat.reduceAdd, List.setIfInBounds_toArray, List.set_cons_zero, List.set_cons_succ] at hts
    subst hts
    have T459 : Below w.heap.size w v458 := T367.trans E458.below
    have l460 : q304 < v362.heap.size := b368.lt
    have b461 : Bx v458 q304 24 #[.bool false, .slice none 0 0] := (E458.far q304 b368.lt (by simp)).trans b368
    have f462 := f369.mono E458.mono
    have e466 : g458 3 = (.bool false) := E458.facts 3 (by decide)
    refine then_normal ?_
    refine wp_cond_false e466 ?_
    refine wp_exit ?_
    refine exit_then ?_
    refine exit_then ?_
    refine exit_block ?_
    refine then_normal ?_
    refine wp_seq ?_
    refine wp_seq ?_
    have HB : w.heap.size ≤ v458.heap.size := T459.size
    refine wp_plan_seq [.val (.is (.int .i64 0)), .val (.is (.string s)), .val (.is (.int .i64 (s.size : Int))), .val (.is (.bool false))] [] [] w.heap.size (by kernel_rfl) (by kernel_rfl) trivial HB ?_ ?_
    · exact ⟨fun s v h => does_val rfl rfl (x_move) ((h.same 5 rfl).trans p365),
      fun s v h => does_val rfl rfl (x_move) ((h.same 0 rfl).trans p364),
      fun s v h => does_val rfl rfl (x_len_str (h.dep 1 rfl)) rfl,
      fun s v h => does_val rfl rfl (x_eql_int (h.dep 0 rfl) (h.dep 2 rfl)) (congrArg Value.bool dn), trivial⟩
    intro g467 ts v467 hts E467
    simp only [fillL, Nat.reduceAdd, List.setIfInBounds_toArray, List.set_cons_zero, List.set_cons_succ] at hts
    subst hts
    have T468 : Below w.heap.size w v467 := T459.trans E467.below
    have l469 : q304 < v458.heap.size := b461.lt
    have b470 : Bx v467 q304 24 #[.bool false, .slice none 0 0] := (E467.far q304 b461.lt (by simp)).trans b461
    have f471 := f462.mono E467.mono
    have e475 : g467 3 = (.bool false) := E467.facts 3 (by decide)
    refine then_normal ?_
    refine wp_cond_false e475 ?_
    refine wp_skip ?_
    refine then_normal ?_
    refine wp_seq ?_
    have HB : w.heap.size ≤ v467.heap.size := T468.size
    refine wp_plan_seq [.val (.is (.slice none 0 0))] [] [] w.heap.size (by kernel_rfl) (by kernel_rfl) trivial HB ?_ ?_
    · exact ⟨fun s v h => does_val rfl rfl (x_assign) rfl, trivial⟩
    intro g476 ts v476 hts E476
    simp only [fillL, List.setIfInBounds_toArray, List.set_cons_zero, List.set_cons_succ] at hts
    subst hts
    have T477 : Below w.heap.size w v476 := T468.trans E476.below
    have l478 : q304 < v467.heap.size := b470.lt
    have b479 : Bx v476 q304 24 #[.bool false, .slice none 0 0] := (E476.far q304 b470.lt (by simp)).trans b470
    have f480 := f471.mono E476.mono
    have e481 : g476 0 = (.slice none 0 0) := E476.facts 0 (by decide)
    refine then_normal ?_
    refine wp_seq ?_
    refine wp_seq ?_
    have HB : w.heap.size ≤ v476.heap.size := T477.size
    refine wp_plan_seq [.val (.is (.int .i64 0)), .val (.is (.int .i64 0))] [] [] w.heap.size (by kernel_rfl) (by kernel_rfl) trivial HB ?_ ?_
    · exact ⟨fun s v h => does_val rfl rfl (x_move) ((h.same 5 rfl).trans p365),
      fun s v h => does_val rfl rfl (x_assign) (h.dep 0 rfl), trivial⟩
    intro g482 ts v482 hts E482
    simp only [fillL, Nat.reduceAdd, List.setIfInBounds_toArray, List.set_cons_zero, List.set_cons_succ] at hts
    subst hts
    have T483 : Below w.heap.size w v482 := T477.trans E482.below
    have l484 : q304 < v476.heap.size := b479.lt
    have b485 : Bx v482 q304 24 #[.bool false, .slice none 0 0] := (E482.far q304 b479.lt (by simp)).trans b479
    have f486 := f480.mono E482.mono
    have e488 : g482 1 = (.int .i64 0) := E482.facts 1 (by decide)
    refine then_normal ?_
    refine wp_block ?_
    refine wp_loop_v 109 (fun k y wL => ∃ (i1 : Nat), y 2 = .pointer (some ⟨q304, 0, none⟩) ∧ y 0 = (.string s) ∧ y 5 = (.int .i64 0) ∧ y 8 = (.int .i64 (i1 : Int)) ∧ Below w.heap.size w wL ∧ Bx wL q304 24 #[.bool false, .slice none 0 0] ∧ Cz wL (.agg #[.bool false, .slice none 0 0]) 0 ∧ Nz 70000 wL (y 7) (dvFrom s 0 (i1 - 0)) ∧ (0 ≤ i1 ∧ i1 ≤ s.size) ∧ k = s.size - i1) rfl rfl ⟨_, 0, p363, p364, p365, e488, T483, b485, f486, ((nz_to (nz_nil _ 70000) (show 0 = dvFrom s 0 (0 - 0) by simp [dvFrom])).at e481), ⟨by omega, by omega⟩, rfl⟩ ?_
    rintro k y489 v489 ⟨i1, p490, p491, p492, p493, T494, b495, f496, f497, ⟨j1a, j2a⟩, hk2⟩
    have hlit : litv 109 y489 = #[y489 0, y489 1, y489 2, y489 3, y489 4, y489 5, y489 6, y489 7, y489 8, y489 9, y489 10, y489 11, y489 12, y489 13, y489 14, y489 15, y489 16, y489 17, y489 18, y489 19, y489 20, y489 21, y489 22, y489 23, y489 24, y489 25, y489 26, y489 27, y489 28, y489 29, y489 30, y489 31, y489 32, y489 33, y489 34, y489 35, y489 36, y489 37, y489 38, y489 39, y489 40, y489 41, y489 42, y489 43, y489 44, y489 45, y489 46, y489 47, y489 48, y489 49, y489 50, y489 51, y489 52, y489 53, y489 54, y489 55, y489 56, y489 57, y489 58, y489 59, y489 60, y489 61, y489 62, y489 63, y489 64, y489 65, y489 66, y489 67, y489 68, y489 69, y489 70, y489 71, y489 72, y489 73, y489 74, y489 75, y489 76, y489 77, y489 78, y489 79, y489 80, y489 81, y489 82, y489 83, y489 84, y489 85, y489 86, y489 87, y489 88, y489 89, y489 90, y489 91, y489 92, y489 93, y489 94, y489 95, y489 96, y489 97, y489 98, y489 99, y489 100, y489 101, y489 102, y489 103, y489 104, y489 105, y489 106, y489 107, y489 108] := rfl
    rw [hlit]
    clear hlit
    by_cases hgo : i1 < s.size
    · skip
      have e0 : decide ((i1 : Int) < (s.size : Int)) = true := decide_eq_true (by omega)
      obtain ⟨n9, hn9⟩ : ∃ n9 : Nat, min 9 ((s.size : Int) - (i1 : Int)) = (n9 : Int) := ⟨(min 9 ((s.size : Int) - (i1 : Int))).toNat, by omega⟩
      have hn9b : 1 ≤ n9 ∧ n9 ≤ 9 ∧ i1 + n9 ≤ s.size := by omega
      refine wp_seq ?_
      refine wp_seq ?_
      have HB : w.heap.size ≤ v489.heap.size := T494.size
      refine wp_plan_seq [.val (.is (.int .i64 (i1 : Int))), .val (.is (.string s)), .val (.is (.int .i64 (s.size : Int))), .val (.is (.bool true))] [] [] w.heap.size (by kernel_rfl) (by kernel_rfl) trivial HB ?_ ?_
      · exact ⟨fun s v h => does_val rfl rfl (x_move) ((h.same 8 rfl).trans p493),
      fun s v h => does_val rfl rfl (x_move) ((h.same 0 rfl).trans p491),
      fun s v h => does_val rfl rfl (x_len_str (h.dep 1 rfl)) rfl,
      fun s v h => does_val rfl rfl (x_lss (h.dep 0 rfl) (h.dep 2 rfl)) (congrArg Value.bool e0), trivial⟩
      intro g498 ts v498 hts E498
      simp only [fillL, Nat.reduceAdd, List.setIfInBounds_toArray, List.set_cons_zero, List.set_cons_succ] at hts
      subst hts
      have T499 : Below w.heap.size w v498 := T494.trans E498.below
      have l500 : q304 < v489.heap.size := b495.lt
      have b501 : Bx v498 q304 24 #[.bool false, .slice none 0 0] := (E498.far q304 b495.lt (by simp)).trans b495
      have f502 := f496.mono E498.mono
      have f503 := f497.mono E498.mono
      have e507 : g498 3 = (.bool true) := E498.facts 3 (by decide)
      refine then_normal ?_
      refine wp_cond_true e507 ?_
      refine wp_skip ?_
      refine then_normal ?_
      refine wp_block ?_
      refine wp_seq ?_
      have HB : w.heap.size ≤ v498.heap.size := T499.size
      refine wp_plan_seq [.val (.is (.string s)), .val (.is (.int .i64 (s.size : Int))), .val (.is (.int .i64 (i1 : Int))), .val (.is (.int .i64 ((s.size : Int) - (i1 : Int)))), .val (.is (.int .i64 (n9 : Int))), .val (.is (.int .i64 (n9 : Int)))] [] [] w.heap.size (by kernel_rfl) (by kernel_rfl) trivial HB ?_ ?_
      · exact ⟨fun s v h => does_val rfl rfl (x_move) ((h.same 0 rfl).trans p491),
      fun s v h => does_val rfl rfl (x_len_str (h.dep 0 rfl)) rfl,
      fun s v h => does_val rfl rfl (x_move) ((h.same 8 rfl).trans p493),
      fun s v h => does_val rfl rfl (x_sub (h.dep 1 rfl) (h.dep 2 rfl) (by rw [IntKind.wrap_i64]; omega)) rfl,
      fun s v h => does_val rfl rfl (x_min9 (h.dep 3 rfl)) (congrArg (Value.int .i64) hn9),
      fun s v h => does_val rfl rfl (x_assign) (h.dep 4 rfl), trivial⟩
      intro g508 ts v508 hts E508
      simp only [fillL, Nat.reduceAdd, List.setIfInBounds_toArray, List.set_cons_zero, List.set_cons_succ] at hts
      subst hts
      have T509 : Below w.heap.size w v508 := T499.trans E508.below
      have l510 : q304 < v498.heap.size := b501.lt
      have b511 : Bx v508 q304 24 #[.bool false, .slice none 0 0] := (E508.far q304 b501.lt (by simp)).trans b501
      have f512 := f502.mono E508.mono
      have f513 := f503.mono E508.mono
      have e519 : g508 5 = (.int .i64 (n9 : Int)) := E508.facts 5 (by decide)
      refine then_normal ?_
      refine wp_seq ?_
      have HB : w.heap.size ≤ v508.heap.size := T509.size
      refine wp_plan_seq [.val (.is (.int .u32 0))] [] [] w.heap.size (by kernel_rfl) (by kernel_rfl) trivial HB ?_ ?_
      · exact ⟨fun s v h => does_val rfl rfl (x_assign) rfl, trivial⟩
      intro g520 ts v520 hts E520
      simp only [fillL, List.setIfInBounds_toArray, List.set_cons_zero, List.set_cons_succ] at hts
      subst hts
      have T521 : Below w.heap.size w v520 := T509.trans E520.below
      have l522 : q304 < v508.heap.size := b511.lt
      have b523 : Bx v520 q304 24 #[.bool false, .slice none 0 0] := (E520.far q304 b511.lt (by simp)).trans b511
      have f524 := f512.mono E520.mono
      have f525 := f513.mono E520.mono
      have e526 : g520 0 = (.int .u32 0) := E520.facts 0 (by decide)
      refine then_normal ?_
      refine wp_seq ?_
      refine wp_seq ?_
      have HB : w.heap.size ≤ v520.heap.size := T521.size
      refine wp_plan_seq [.val (.is (.int .i64 (n9 : Int))), .val (.is (.int .i64 0))] [] [] w.heap.size (by kernel_rfl) (by kernel_rfl) trivial HB ?_ ?_
      · exact ⟨fun s v h => does_val rfl rfl (x_move) ((h.same 9 rfl).trans e519),
      fun s v h => does_val rfl rfl (x_move) rfl, trivial⟩
      intro g527 ts v527 hts E527
      simp only [fillL, Nat.reduceAdd, List.setIfInBounds_toArray, List.set_cons_zero, List.set_cons_succ] at hts
      subst hts
      have T528 : Below w.heap.size w v527 := T521.trans E527.below
      have l529 : q304 < v520.heap.size := b523.lt
      have b530 : Bx v527 q304 24 #[.bool false, .slice none 0 0] := (E527.far q304 b523.lt (by simp)).trans b523
      have f531 := f524.mono E527.mono
      have f532 := f525.mono E527.mono
      have e533 : g527 0 = (.int .i64 (n9 : Int)) := E527.facts 0 (by decide)
      have e534 : g527 1 = (.int .i64 0) := E527.facts 1 (by decide)
      refine then_normal ?_
      refine wp_block ?_
      refine wp_loop_v 109 (fun k y wL => ∃ (j1 : Nat) (v1 : Int), y 2 = .pointer (some ⟨q304, 0, none⟩) ∧ y 0 = (.string s) ∧ y 5 = (.int .i64 0) ∧ y 9 = (.int .i64 (n9 : Int)) ∧ y 83 = (.int .i64 (n9 : Int)) ∧ y 8 = (.int .i64 ((i1 + j1 : Nat) : Int)) ∧ y 10 = (.int .u32 v1) ∧ y 84 = (.int .i64 (j1 : Int)) ∧ Below w.heap.size w wL ∧ Bx wL q304 24 #[.bool false, .slice none 0 0] ∧ Cz wL (.agg #[.bool false, .slice none 0 0]) 0 ∧ Nz 70000 wL (y 7) (dvFrom s 0 (i1 - 0)) ∧ (j1 ≤ n9 ∧ v1 = (dvFrom s i1 j1 : Int)) ∧ k = n9 - j1) rfl rfl ⟨_, 0, 0, p490, p491, p492, e519, e533, p493, e526, e534, T528, b530, f531, f532, ⟨by omega, rfl⟩, rfl⟩ ?_
      rintro k y535 v535 ⟨j1, v1, p536, p537, p538, p539, p540, p541, p542, p543, T544, b545, f546, f547, ⟨q1, q2⟩, hk3⟩
      have hlit : litv 109 y535 = #[y535 0, y535 1, y535 2, y535 3, y535 4, y535 5, y535 6, y535 7, y535 8, y535 9, y535 10, y535 11, y535 12, y535 13, y535 14, y535 15, y535 16, y535 17, y535 18, y535 19, y535 20, y535 21, y535 22, y535 23, y535 24, y535 25, y535 26, y535 27, y535 28, y535 29, y535 30, y535 31, y535 32, y535 33, y535 34, y535 35, y535 36, y535 37, y535 38, y535 39, y535 40, y535 41, y535 42, y535 43, y535 44, y535 45, y535 46, y535 47, y535 48, y535 49, y535 50, y535 51, y535 52, y535 53, y535 54, y535 55, y535 56, y535 57, y535 58, y535 59, y535 60, y535 61, y535 62, y535 63, y535 64, y535 65, y535 66, y535 67, y535 68, y535 69, y535 70, y535 71, y535 72, y535 73, y535 74, y535 75, y535 76, y535 77, y535 78, y535 79, y535 80, y535 81, y535 82, y535 83, y535 84, y535 85, y535 86, y535 87, y535 88, y535 89, y535 90, y535 91, y535 92, y535 93, y535 94, y535 95, y535 96, y535 97, y535 98, y535 99, y535 100, y535 101, y535 102, y535 103, y535 104, y535 105, y535 106, y535 107, y535 108] := rfl
      rw [hlit]
      clear hlit
      by_cases hjn : j1 < n9
      · skip
        have e0 : decide ((j1 : Int) < (n9 : Int)) = true := decide_eq_true (by omega)
        have hd := HD.out (i1 + j1) (by omega) (by omega)
        have hidx : i1 + j1 < s.size := by omega
        have hv := dig_small HD (i := i1) (j := j1) (by omega) (by omega) (by omega)
        refine wp_seq ?_
        have HB : w.heap.size ≤ v535.heap.size := T544.size
        refine wp_plan_seq [.val (.is (.bool true))] [] [] w.heap.size (by kernel_rfl) (by kernel_rfl) trivial HB ?_ ?_
        · exact ⟨fun s v h => does_val rfl rfl (x_lss ((h.same 84 rfl).trans p543) ((h.same 83 rfl).trans p540)) (congrArg Value.bool e0), trivial⟩
        intro g548 ts v548 hts E548
        simp only [fillL, List.setIfInBounds_toArray, List.set_cons_zero, List.set_cons_succ] at hts
        subst hts
        have T549 : Below w.heap.size w v548 := T544.trans E548.below
        have l550 : q304 < v535.heap.size := b545.lt
        have b551 : Bx v548 q304 24 #[.bool false, .slice none 0 0] := (E548.far q304 b545.lt (by simp)).trans b545
        have f552 := f546.mono E548.mono
        have f553 := f547.mono E548.mono
        have e554 : g548 0 = (.bool true) := E548.facts 0 (by decide)
        refine then_normal ?_
        refine wp_seq ?_
        refine wp_cond_true e554 ?_
        refine wp_skip ?_
        refine then_normal ?_
        refine wp_seq ?_
        refine wp_block ?_
        refine wp_seq ?_
        have HB : w.heap.size ≤ v548.heap.size := T549.size
        refine wp_plan_seq [.val (.is (.int .u32 v1)), .val (.is (.int .u32 (10 * v1))), .val (.is (.string s)), .val (.is (.int .i64 ((i1 + j1 : Nat) : Int))), .val (.is (.int .u8 (byteN s (i1 + j1) : Int))), .val (.is (.int .u8 ((byteN s (i1 + j1) : Int) - 48))), .val (.is (.int .u32 ((byteN s (i1 + j1) : Int) - 48))), .val (.is (.int .u32 ((10 * v1) + ((byteN s (i1 + j1) : Int) - 48)))), .val (.is (.int .u32 ((10 * v1) + ((byteN s (i1 + j1) : Int) - 48))))] [] [] w.heap.size (by kernel_rfl) (by kernel_rfl) trivial HB ?_ ?_
        · exact ⟨fun s v h => does_val rfl rfl (x_move) ((h.soon 8 10 rfl rfl).trans p542),
      fun s v h => does_val rfl rfl (x_mul_u32 rfl (h.dep 0 rfl) (IntWalk.u32_in _ (by omega))) rfl,
      fun s v h => does_val rfl rfl (x_move) ((h.same 0 rfl).trans p537),
      fun s v h => does_val rfl rfl (x_move) ((h.same 8 rfl).trans p541),
      fun s v h => does_val rfl rfl (x_index_str (h.dep 2 rfl) (k := (i1 + j1)) (h.dep 3 rfl) (by omega)) rfl,
      fun s v h => does_val rfl rfl (x_sub_u8 (h.dep 4 rfl) rfl (IntWalk.u8_in _ (by omega))) rfl,
      fun s v h => does_val rfl rfl (x_conv_8_32 (h.dep 5 rfl) (IntWalk.u32_in _ (by omega))) rfl,
      fun s v h => does_val rfl rfl (x_add_u32 (h.dep 1 rfl) (h.dep 6 rfl) (IntWalk.u32_in _ (by omega))) rfl,
      fun s v h => does_val rfl rfl (x_assign) (h.dep 7 rfl), trivial⟩
        intro g555 ts v555 hts E555
        simp only [fillL, Nat.reduceAdd, List.setIfInBounds_toArray, List.set_cons_zero, List.set_cons_succ] at hts
        subst hts
        have T556 : Below w.heap.size w v555 := T549.trans E555.below
        have l557 : q304 < v548.heap.size := b551.lt
        have b558 : Bx v555 q304 24 #[.bool false, .slice none 0 0] := (E555.far q304 b551.lt (by simp)).trans b551
        have f559 := f552.mono E555.mono
        have f560 := f553.mono E555.mono
        have e569 : g555 8 = (.int .u32 ((10 * v1) + ((byteN s (i1 + j1) : Int) - 48))) := E555.facts 8 (by decide)
        refine then_normal ?_
        have HB : w.heap.size ≤ v555.heap.size := T556.size
        refine wp_plan_seq [.val (.is (.int .i64 ((i1 + j1 : Nat) : Int))), .val (.is (.int .i64 ((i1 + (j1 + 1) : Nat) : Int))), .val (.is (.int .i64 ((i1 + (j1 + 1) : Nat) : Int)))] [] [] w.heap.size (by kernel_rfl) (by kernel_rfl) trivial HB ?_ ?_
        · exact ⟨fun s v h => does_val rfl rfl (x_move) ((h.soon 2 8 rfl rfl).trans p541),
      fun s v h => does_val rfl rfl (x_add (h.dep 0 rfl) rfl (by rw [IntKind.wrap_i64]; omega)) (congrArg (Value.int .i64) (by omega)),
      fun s v h => does_val rfl rfl (x_assign) (h.dep 1 rfl), trivial⟩
        intro g570 ts v570 hts E570
        simp only [fillL, Nat.reduceAdd, List.setIfInBounds_toArray, List.set_cons_zero, List.set_cons_succ] at hts
        subst hts
        have T571 : Below w.heap.size w v570 := T556.trans E570.below
        have l572 : q304 < v555.heap.size := b558.lt
        have b573 : Bx v570 q304 24 #[.bool false, .slice none 0 0] := (E570.far q304 b558.lt (by simp)).trans b558
        have f574 := f559.mono E570.mono
        have f575 := f560.mono E570.mono
        have e578 : g570 2 = (.int .i64 ((i1 + (j1 + 1) : Nat) : Int)) := E570.facts 2 (by decide)
        refine block_normal ?_
        refine then_normal ?_
        have HB : w.heap.size ≤ v570.heap.size := T571.size
        refine wp_plan_seq [.val (.is (.int .i64 ((j1 + 1 : Nat) : Int))), .val (.is (.int .i64 ((j1 + 1 : Nat) : Int)))] [] [] w.heap.size (by kernel_rfl) (by kernel_rfl) trivial HB ?_ ?_
        · exact ⟨fun s v h => does_val rfl rfl (x_add ((h.soon 1 84 rfl rfl).trans p543) rfl (by rw [IntKind.wrap_i64]; omega)) (congrArg (Value.int .i64) (by omega)),
      fun s v h => does_val rfl rfl (x_move) (h.dep 0 rfl), trivial⟩
        intro g579 ts v579 hts E579
        simp only [fillL, Nat.reduceAdd, List.setIfInBounds_toArray, List.set_cons_zero, List.set_cons_succ] at hts
        subst hts
        have T580 : Below w.heap.size w v579 := T571.trans E579.below
        have l581 : q304 < v570.heap.size := b573.lt
        have b582 : Bx v579 q304 24 #[.bool false, .slice none 0 0] := (E579.far q304 b573.lt (by simp)).trans b573
        have f583 := f574.mono E579.mono
        have f584 := f575.mono E579.mono
        have e586 : g579 1 = (.int .i64 ((j1 + 1 : Nat) : Int)) := E579.facts 1 (by decide)
        refine then_normal ?_
        exact ⟨rfl, rfl, _, (by omega), (j1 + 1), ((10 * v1) + ((byteN s (i1 + j1) : Int) - 48)), p536, p537, p538, p539, p540, e578, e569, e586, T580, b582, f583, f584, ⟨by omega, by rw [q2, dvFrom]; omega⟩, rfl⟩
      · skip
        have e0 : decide ((j1 : Int) < (n9 : Int)) = false := decide_eq_false (by omega)
        have e3 : j1 = n9 := by omega
        have hp9 : 10 ^ n9 < 4294967296 := Nat.lt_of_le_of_lt (Nat.pow_le_pow_right (by omega) (show n9 ≤ 9 by omega)) (by decide)
        have hp9a : 0 ≤ ((10 ^ n9 : Nat) : Int) := Int.natCast_nonneg _
        have hp9b : ((10 ^ n9 : Nat) : Int) < 4294967296 := Int.ofNat_lt.2 hp9
        have hv9 := dig_small9 HD (i := i1) (j := n9) (by omega) (by omega) (by omega)
        rw [← e3, ← q2] at hv9
        have hvt : v1.toNat = dvFrom s i1 n9 := by rw [← e3]; omega
        have he9 : (dvFrom s 0 (i1 - 0)) * 10 ^ n9 + v1.toNat = (dvFrom s 0 (i1 + n9 - 0)) := by rw [hvt, show i1 + n9 - 0 = (i1 - 0) + n9 by omega, dvFrom_add, show 0 + (i1 - 0) = i1 by omega]
        have hk9 : (digs (dvFrom s 0 (i1 + n9 - 0))).length ≤ 70000 := Nat.le_trans (dig_len HD (i := 0) (j := i1 + n9 - 0) (by omega) (by omega)) (by omega)
        refine wp_seq ?_
        have HB : w.heap.size ≤ v535.heap.size := T544.size
        refine wp_plan_seq [.val (.is (.bool false))] [] [] w.heap.size (by kernel_rfl) (by kernel_rfl) trivial HB ?_ ?_
        · exact ⟨fun s v h => does_val rfl rfl (x_lss ((h.same 84 rfl).trans p543) ((h.same 83 rfl).trans p540)) (congrArg Value.bool e0), trivial⟩
        intro g587 ts v587 hts E587
        simp only [fillL, List.setIfInBounds_toArray, List.set_cons_zero, List.set_cons_succ] at hts
        subst hts
        have T588 : Below w.heap.size w v587 := T544.trans E587.below
        have l589 : q304 < v535.heap.size := b545.lt
        have b590 : Bx v587 q304 24 #[.bool false, .slice none 0 0] := (E587.far q304 b545.lt (by simp)).trans b545
        have f591 := f546.mono E587.mono
        have f592 := f547.mono E587.mono
        have e593 : g587 0 = (.bool false) := E587.facts 0 (by decide)
        refine then_normal ?_
        refine wp_seq ?_
        refine wp_cond_false e593 ?_
        refine wp_exit ?_
        refine exit_then ?_
        refine exit_then ?_
        refine exit_block ?_
        refine then_normal ?_
        have HB : w.heap.size ≤ v587.heap.size := T588.size
        refine wp_plan_seq [.val (.nz 70000 (dvFrom s 0 (i1 - 0))), .val (.is (.int .i64 (n9 : Int))), .val (.is (.int .u32 ((10 ^ n9 : Nat) : Int))), .val (.nz 1 (((10 ^ n9 : Nat) : Int)).toNat), .val (.nz 70001 ((dvFrom s 0 (i1 - 0)) * 10 ^ n9)), .val (.is (.int .u32 v1)), .val (.nz 1 (v1).toNat), .val (.nz 70000 (dvFrom s 0 (i1 + n9 - 0))), .val (.nz 70000 (dvFrom s 0 (i1 + n9 - 0)))] [] [] w.heap.size (by kernel_rfl) (by kernel_rfl) trivial HB ?_ ?_
        · exact ⟨fun s v h => does_val rfl rfl (x_move) ((f592.mono h.mono).at (h.soon 8 7 rfl rfl)),
      fun s v h => does_val rfl rfl (x_move) ((h.same 9 rfl).trans p539),
      fun s v h => does_call rfl rfl (x_call1 Try.call111) (nines_k (h.dep 1 rfl) (by omega)),
      fun s v h => does_slice1 rfl rfl (h.dep 2 rfl) hp9a hp9b,
      fun s v h => does_call rfl rfl (x_call2 Try.call91) (nmul_k (h.dep 0 rfl) (h.dep 3 rfl) (by omega) (by omega)),
      fun s v h => does_val rfl rfl (x_move) ((h.same 10 rfl).trans p542),
      fun s v h => does_slice1 rfl rfl (h.dep 5 rfl) (by omega) (by omega),
      fun s v h => does_call rfl rfl (x_call2 Try.call92) (nadd_m (h.dep 4 rfl) (h.dep 6 rfl) (by omega) (by omega) he9 hk9),
      fun s v h => does_val rfl rfl (x_assign) (h.dep 7 rfl), trivial⟩
        intro g594 ts v594 hts E594
        simp only [fillL, Nat.reduceAdd, List.setIfInBounds_toArray, List.set_cons_zero, List.set_cons_succ] at hts
        subst hts
        have T595 : Below w.heap.size w v594 := T588.trans E594.below
        have l596 : q304 < v587.heap.size := b590.lt
        have b597 : Bx v594 q304 24 #[.bool false, .slice none 0 0] := (E594.far q304 b590.lt (by simp)).trans b590
        have f598 := f591.mono E594.mono
        have f608 : Nz 70000 v594 (g594 8) (dvFrom s 0 (i1 + n9 - 0)) := E594.facts 8 (by decide)
        refine block_normal ?_
        refine then_normal ?_
        exact ⟨rfl, rfl, _, (by omega), (i1 + n9), p536, p537, p538, (p541.trans (by rw [e3])), T595, b597, f598, f608, ⟨by omega, by omega⟩, rfl⟩
    · skip
      have e0 : decide ((i1 : Int) < (s.size : Int)) = false := decide_eq_false (by omega)
      have e2 : i1 = s.size := by omega
      refine wp_seq ?_
      refine wp_seq ?_
      have HB : w.heap.size ≤ v489.heap.size := T494.size
      refine wp_plan_seq [.val (.is (.int .i64 (i1 : Int))), .val (.is (.string s)), .val (.is (.int .i64 (s.size : Int))), .val (.is (.bool false))] [] [] w.heap.size (by kernel_rfl) (by kernel_rfl) trivial HB ?_ ?_
      · exact ⟨fun s v h => does_val rfl rfl (x_move) ((h.same 8 rfl).trans p493),
      fun s v h => does_val rfl rfl (x_move) ((h.same 0 rfl).trans p491),
      fun s v h => does_val rfl rfl (x_len_str (h.dep 1 rfl)) rfl,
      fun s v h => does_val rfl rfl (x_lss (h.dep 0 rfl) (h.dep 2 rfl)) (congrArg Value.bool e0), trivial⟩
      intro g609 ts v609 hts E609
      simp only [fillL, Nat.reduceAdd, List.setIfInBounds_toArray, List.set_cons_zero, List.set_cons_succ] at hts
      subst hts
      have T610 : Below w.heap.size w v609 := T494.trans E609.below
      have l611 : q304 < v489.heap.size := b495.lt
      have b612 : Bx v609 q304 24 #[.bool false, .slice none 0 0] := (E609.far q304 b495.lt (by simp)).trans b495
      have f614 := f497.mono E609.mono
      have e618 : g609 3 = (.bool false) := E609.facts 3 (by decide)
      refine then_normal ?_
      refine wp_cond_false e618 ?_
      refine wp_exit ?_
      refine exit_then ?_
      refine exit_then ?_
      refine exit_block ?_
      refine then_normal ?_
      refine wp_seq ?_
      have HB : w.heap.size ≤ v609.heap.size := T610.size
      refine wp_plan_seq [.val (.is (.int .i64 0)), .val (.is (.bool false)), .val (.nz 70000 (dvFrom s 0 (i1 - 0))), .val (.cz (zof false (dvFrom s 0 (i1 - 0)))), .put 2 108, .val (.is (.int .i64 0)), .val (.is (.int .i64 0))] [2] [q304] w.heap.size (by kernel_rfl) (by kernel_rfl) ⟨p490, b612.lt, (by simp), trivial⟩ HB ?_ ?_
      · exact ⟨fun s v h => does_val rfl rfl (x_move) ((h.same 5 rfl).trans p492),
      fun s v h => does_val rfl rfl (x_eql_int (h.dep 0 rfl) rfl) rfl,
      fun s v h => does_val rfl rfl (x_move) ((f614.mono h.mono).at (h.same 7 rfl)),
      fun s v h => does_call rfl rfl (x_call2 Try.call76) (zmade_k (h.dep 1 rfl) (h.dep 2 rfl)),
      fun s v h => does_put_z rfl rfl ((h.same 2 rfl).trans p490) (h.dep 3 rfl).shape (h.mono.ok _ _ b612.ok2) h310,
      fun s v h => does_val rfl rfl (x_assign) rfl,
      fun s v h => does_val rfl rfl (x_assign) rfl, trivial⟩
      intro g619 ts v619 hts E619
      simp only [fillL, Nat.reduceAdd, List.setIfInBounds_toArray, List.set_cons_zero, List.set_cons_succ] at hts
      subst hts
      have T620 : Below w.heap.size w v619 := T610.trans E619.below
      have l621 : q304 < v609.heap.size := b612.lt
      have f627 : Cz v619 (g619 3) (zof false (dvFrom s 0 (i1 - 0))) := E619.facts 3 (by decide)
      have e628 : g619 5 = (.int .i64 0) := E619.facts 5 (by decide)
      have e629 : g619 6 = (.int .i64 0) := E619.facts 6 (by decide)
      obtain ⟨t630, x632, A633, m634, c635, e636, b631⟩ := put_info (E619.facts 4 (by decide)) p490 f627.shape
      have f637 : Cz v619 (.agg #[.bool x632, .slice A633 m634 c635]) (zof false (dvFrom s 0 (i1 - 0))) := f627.at e636.symm
      refine then_normal ?_
      refine wp_ret ?_
      exact bodyPost_ret (ret_ctt rfl p490 b631) rfl ⟨_, rfl, ⟨_, _, _, rfl, (by have := f637; rw [e2] at this; exact this), e628, e629⟩, T620⟩

set_option maxHeartbeats 4000000 in
set_option maxRecDepth 8000 in
theorem zread_none0 {w : World} {s : ByteArray} (d1 : decide ((65536 : Int) < (s.size : Int)) = false) (dp : decide ((0 : Int) < (s.size : Int)) = false) (dn : ((0 : Int) == (s.size : Int)) = true)  : Calls Try.prog 99 #[.string s] w (Ret (.tup3 (.cz 0) (.is (.int .i64 0)) (.is (.int .i64 4))) w) := by
  have T0 : Below w.heap.size w w := Below.refl _ _
  go_enter Try.func99, Try.ntmps99
  refine wp_seq ?_
  have HB : w.heap.size ≤ w.heap.size := T0.size
  refine wp_plan_seq [.new 2 (some (24, #[.bool false, .slice none 0 0])), .val (.is (.int .i64 0)), .val (.is (.int .i64 0))] [] [] w.heap.size (by kernel_rfl) (by kernel_rfl) trivial HB ?_ ?_
  · exact ⟨fun s v h => does_new rfl rfl x_alloc_z (okz _ _ _ _) rfl (.inr rfl),
      fun s v h => does_val rfl rfl (x_assign) rfl,
      fun s v h => does_val rfl rfl (x_assign) rfl, trivial⟩
  intro g638 ts v638 hts E638
  simp only [fillL, Nat.reduceAdd, List.setIfInBounds_toArray, List.set_cons_zero, List.set_cons_succ] at hts
  subst hts
  have T639 : Below w.heap.size w v638 := T0.trans E638.below
  obtain ⟨q642, p643, l644, o645, b646⟩ : ∃ q, g638 0 = .pointer (some ⟨q, 0, none⟩) ∧ w.heap.size ≤ q ∧ OkB v638 q 2 ∧ Bx v638 q 24 #[.bool false, .slice none 0 0] := E638.facts 0 (by decide)
  have f647 : Cz v638 (.agg #[.bool false, .slice none 0 0]) 0 := cz_zero _
  have h648 : w.heap.size ≤ q642 := Nat.le_trans HB l644
  refine then_normal ?_
  refine wp_seq ?_
  refine wp_seq ?_
  have HB : w.heap.size ≤ v638.heap.size := T639.size
  refine wp_plan_seq [.val (.is (.string s)), .val (.is (.int .i64 (s.size : Int))), .val (.is (.bool false))] [] [] w.heap.size (by kernel_rfl) (by kernel_rfl) trivial HB ?_ ?_
  · exact ⟨fun s v h => does_val rfl rfl (x_move) (h.same 0 rfl),
      fun s v h => does_val rfl rfl (x_len_str (h.dep 0 rfl)) rfl,
      fun s v h => does_val rfl rfl (x_gtr (h.dep 1 rfl) rfl) (congrArg Value.bool d1), trivial⟩
  intro g649 ts v649 hts E649
  simp only [fillL, Nat.reduceAdd, List.setIfInBounds_toArray, List.set_cons_zero, List.set_cons_succ] at hts
  subst hts
  have T650 : Below w.heap.size w v649 := T639.trans E649.below
  have l651 : q642 < v638.heap.size := b646.lt
  have b652 : Bx v649 q642 24 #[.bool false, .slice none 0 0] := (E649.far q642 b646.lt (by simp)).trans b646
  have f653 := f647.mono E649.mono
  have e656 : g649 2 = (.bool false) := E649.facts 2 (by decide)
  refine then_normal ?_
  refine wp_cond_false e656 ?_
  refine wp_skip ?_
  refine then_normal ?_
  refine wp_seq ?_
  have HB : w.heap.size ≤ v649.heap.size := T650.size
  refine wp_plan_seq [.val (.is (.int .i64 0))] [] [] w.heap.size (by kernel_rfl) (by kernel_rfl) trivial HB ?_ ?_
  · exact ⟨fun s v h => does_val rfl rfl (x_assign) rfl, trivial⟩
  intro g657 ts v657 hts E657
  simp only [fillL, List.setIfInBounds_toArray, List.set_cons_zero, List.set_cons_succ] at hts
  subst hts
  have T658 : Below w.heap.size w v657 := T650.trans E657.below
  have l659 : q642 < v649.heap.size := b652.lt
  have b660 : Bx v657 q642 24 #[.bool false, .slice none 0 0] := (E657.far q642 b652.lt (by simp)).trans b652
  have f661 := f653.mono E657.mono
  have e662 : g657 0 = (.int .i64 0) := E657.facts 0 (by decide)
  refine then_normal ?_
  refine wp_seq ?_
  refine wp_seq ?_
  have HB : w.heap.size ≤ v657.heap.size := T658.size
  refine wp_plan_seq [.val (.is (.string s)), .val (.is (.int .i64 (s.size : Int))), .val (.is (.bool false)), .val (.is (.bool false)), .val (.is undef), .val (.is undef), .val (.is undef), .val (.is (.bool false))] [] [] w.heap.size (by kernel_rfl) (by kernel_rfl) trivial HB ?_ ?_
  · exact ⟨fun s v h => does_val rfl rfl (x_move) (h.same 0 rfl),
      fun s v h => does_val rfl rfl (x_len_str (h.dep 0 rfl)) rfl,
      fun s v h => does_val rfl rfl (x_gtr (h.dep 1 rfl) rfl) (congrArg Value.bool dp),
      fun s v h => does_val rfl rfl (x_move) (h.dep 2 rfl),
      fun s v h => does_skip rfl (wanted_by (b := false) (want := true) rfl rfl (h.dep 3 rfl)) rfl,
      fun s v h => does_skip rfl (wanted_by (b := false) (want := true) rfl rfl (h.dep 3 rfl)) rfl,
      fun s v h => does_skip rfl (wanted_by (b := false) (want := true) rfl rfl (h.dep 3 rfl)) rfl,
      fun s v h => does_val rfl rfl (x_pick (h.dep 3 rfl)) rfl, trivial⟩
  intro g663 ts v663 hts E663
  simp only [fillL, Nat.reduceAdd, List.setIfInBounds_toArray, List.set_cons_zero, List.set_cons_succ] at hts
  subst hts
  have T664 : Below w.heap.size w v663 := T658.trans E663.below
  have l665 : q642 < v657.heap.size := b660.lt
  have b666 : Bx v663 q642 24 #[.bool false, .slice none 0 0] := (E663.far q642 b660.lt (by simp)).trans b660
  have f667 := f661.mono E663.mono
  have e675 : g663 7 = (.bool false) := E663.facts 7 (by decide)
  refine then_normal ?_
  refine wp_cond_false e675 ?_
  refine wp_skip ?_
  refine then_normal ?_
  refine wp_seq ?_
  refine wp_seq ?_
  have HB : w.heap.size ≤ v663.heap.size := T664.size
  refine wp_plan_seq [.val (.is (.int .i64 0)), .val (.is (.bool false)), .val (.is (.bool false)), .val (.is undef), .val (.is undef), .val (.is undef), .val (.is (.bool false)), .val (.is (.bool false)), .val (.is undef), .val (.is undef), .val (.is undef), .val (.is (.bool false))] [] [] w.heap.size (by kernel_rfl) (by kernel_rfl) trivial HB ?_ ?_
  · exact ⟨fun s v h => does_val rfl rfl (x_move) ((h.same 5 rfl).trans e662),
      fun s v h => does_val rfl rfl (x_eql_int (h.dep 0 rfl) rfl) rfl,
      fun s v h => does_val rfl rfl (x_move) (h.dep 1 rfl),
      fun s v h => does_skip rfl (wanted_by (b := false) (want := true) rfl rfl (h.dep 2 rfl)) rfl,
      fun s v h => does_skip rfl (wanted_by (b := false) (want := true) rfl rfl (h.dep 2 rfl)) rfl,
      fun s v h => does_skip rfl (wanted_by (b := false) (want := true) rfl rfl (h.dep 2 rfl)) rfl,
      fun s v h => does_val rfl rfl (x_pick (h.dep 2 rfl)) rfl,
      fun s v h => does_val rfl rfl (x_move) (h.dep 6 rfl),
      fun s v h => does_skip rfl (wanted_by (b := false) (want := true) rfl rfl (h.dep 7 rfl)) rfl,
      fun s v h => does_skip rfl (wanted_by (b := false) (want := true) rfl rfl (h.dep 7 rfl)) rfl,
      fun s v h => does_skip rfl (wanted_by (b := false) (want := true) rfl rfl (h.dep 7 rfl)) rfl,
      fun s v h => does_val rfl rfl (x_pick (h.dep 7 rfl)) rfl, trivial⟩
  intro g676 ts v676 hts E676
  simp only [fillL, Nat.reduceAdd, List.setIfInBounds_toArray, List.set_cons_zero, List.set_cons_succ] at hts
  subst hts
  have T677 : Below w.heap.size w v676 := T664.trans E676.below
  have l678 : q642 < v663.heap.size := b666.lt
  have b679 : Bx v676 q642 24 #[.bool false, .slice none 0 0] := (E676.far q642 b666.lt (by simp)).trans b666
  have f680 := f667.mono E676.mono
  have e692 : g676 11 = (.bool false) := E676.facts 11 (by decide)
  refine then_normal ?_
  refine wp_cond_false e692 ?_
  refine wp_skip ?_
  refine then_normal ?_
  refine wp_seq ?_
  refine wp_seq ?_
  have HB : w.heap.size ≤ v676.heap.size := T677.size
  refine wp_plan_seq [.val (.is (.int .i64 0)), .val (.is (.int .i64 0))] [] [] w.heap.size (by kernel_rfl) (by kernel_rfl) trivial HB ?_ ?_
  · exact ⟨fun s v h => does_val rfl rfl (x_move) ((h.same 5 rfl).trans e662),
      fun s v h => does_val rfl rfl (x_assign) (h.dep 0 rfl), trivial⟩
  intro g693 ts v693 hts E693
  simp only [fillL, Nat.reduceAdd, List.setIfInBounds_toArray, List.set_cons_zero, List.set_cons_succ] at hts
  subst hts
  have T694 : Below w.heap.size w v693 := T677.trans E693.below
  have l695 : q642 < v676.heap.size := b679.lt
  have b696 : Bx v693 q642 24 #[.bool false, .slice none 0 0] := (E693.far q642 b679.lt (by simp)).trans b679
  have f697 := f680.mono E693.mono
  have e699 : g693 1 = (.int .i64 0) := E693.facts 1 (by decide)
  refine then_normal ?_
  refine wp_block ?_
  refine wp_loop_v 109 (fun k y wL => ∃ (u1 : Unit), y 2 = .pointer (some ⟨q642, 0, none⟩) ∧ y 0 = (.string s) ∧ y 5 = (.int .i64 0) ∧ y 6 = (.int .i64 0) ∧ Below w.heap.size w wL ∧ Bx wL q642 24 #[.bool false, .slice none 0 0] ∧ Cz wL (.agg #[.bool false, .slice none 0 0]) 0 ∧ (True) ∧ k = 0) rfl rfl ⟨_, (), p643, rfl, e662, e699, T694, b696, f697, trivial, rfl⟩ ?_
  rintro k y700 v700 ⟨u1, p701, p702, p703, p704, T705, b706, f707, hJ0, hk⟩
  have hlit : litv 109 y700 = #[y700 0, y700 1, y700 2, y700 3, y700 4, y700 5, y700 6, y700 7, y700 8, y700 9, y700 10, y700 11, y700 12, y700 13, y700 14, y700 15, y700 16, y700 17, y700 18, y700 19, y700 20, y700 21, y700 22, y700 23, y700 24, y700 25, y700 26, y700 27, y700 28, y700 29, y700 30, y700 31, y700 32, y700 33, y700 34, y700 35, y700 36, y700 37, y700 38, y700 39, y700 40, y700 41, y700 42, y700 43, y700 44, y700 45, y700 46, y700 47, y700 48, y700 49, y700 50, y700 51, y700 52, y700 53, y700 54, y700 55, y700 56, y700 57, y700 58, y700 59, y700 60, y700 61, y700 62, y700 63, y700 64, y700 65, y700 66, y700 67, y700 68, y700 69, y700 70, y700 71, y700 72, y700 73, y700 74, y700 75, y700 76, y700 77, y700 78, y700 79, y700 80, y700 81, y700 82, y700 83, y700 84, y700 85, y700 86, y700 87, y700 88, y700 89, y700 90, y700 91, y700 92, y700 93, y700 94, y700 95, y700 96, y700 97, y700 98, y700 99, y700 100, y700 101, y700 102, y700 103, y700 104, y700 105, y700 106, y700 107, y700 108] := rfl
  rw [hlit]
  clear hlit
  refine wp_seq ?_
  refine wp_seq ?_
  have HB : w.heap.size ≤ v700.heap.size := T705.size
  refine wp_plan_seq [.val (.is (.int .i64 0)), .val (.is (.string s)), .val (.is (.int .i64 (s.size : Int))), .val (.is (.bool false))] [] [] w.heap.size (by kernel_rfl) (by kernel_rfl) trivial HB ?_ ?_
  · exact ⟨fun s v h => does_val rfl rfl (x_move) ((h.same 6 rfl).trans p704),
      fun s v h => does_val rfl rfl (x_move) ((h.same 0 rfl).trans p702),
      fun s v h => does_val rfl rfl (x_len_str (h.dep 1 rfl)) rfl,
      fun s v h => does_val rfl rfl (x_lss (h.dep 0 rfl) (h.dep 2 rfl)) (congrArg Value.bool dp), trivial⟩
  intro g708 ts v708 hts E708
  simp only [fillL, Nat.reduceAdd, List.setIfInBounds_toArray, List.set_cons_zero, List.set_cons_succ] at hts
  subst hts
  have T709 : Below w.heap.size w v708 := T705.trans E708.below
  have l710 : q642 < v700.heap.size := b706.lt
  have b711 : Bx v708 q642 24 #[.bool false, .slice none 0 0] := (E708.far q642 b706.lt (by simp)).trans b706
  have e716 : g708 3 = (.bool false) := E708.facts 3 (by decide)
  refine then_normal ?_
  refine wp_cond_false e716 ?_
  refine wp_exit ?_
  refine exit_then ?_
  refine exit_then ?_
  refine exit_block ?_
  refine then_normal ?_
  refine wp_seq ?_
  refine wp_seq ?_
  have HB : w.heap.size ≤ v708.heap.size := T709.size
  refine wp_plan_seq [.val (.is (.int .i64 0)), .val (.is (.string s)), .val (.is (.int .i64 (s.size : Int))), .val (.is (.bool true))] [] [] w.heap.size (by kernel_rfl) (by kernel_rfl) trivial HB ?_ ?_
  · exact ⟨fun s v h => does_val rfl rfl (x_move) ((h.same 5 rfl).trans p703),
      fun s v h => does_val rfl rfl (x_move) ((h.same 0 rfl).trans p702),
      fun s v h => does_val rfl rfl (x_len_str (h.dep 1 rfl)) rfl,
      fun s v h => does_val rfl rfl (x_eql_int (h.dep 0 rfl) (h.dep 2 rfl)) (congrArg Value.bool dn), trivial⟩
  intro g717 ts v717 hts E717
  simp only [fillL, Nat.reduceAdd, List.setIfInBounds_toArray, List.set_cons_zero, List.set_cons_succ] at hts
  subst hts
  have T718 : Below w.heap.size w v717 := T709.trans E717.below
  have l719 : q642 < v708.heap.size := b711.lt
  have b720 : Bx v717 q642 24 #[.bool false, .slice none 0 0] := (E717.far q642 b711.lt (by simp)).trans b711
  have e725 : g717 3 = (.bool true) := E717.facts 3 (by decide)
  refine then_normal ?_
  refine wp_cond_true e725 ?_
  refine wp_seq ?_
  have HB : w.heap.size ≤ v717.heap.size := T718.size
  refine wp_plan_seq [.val (.is (.agg #[.bool false, .slice none 0 0])), .val (.is (.int .i64 0)), .put 2 71, .val (.is (.int .i64 0)), .val (.is (.int .i64 4))] [2] [q642] w.heap.size (by kernel_rfl) (by kernel_rfl) ⟨p701, b720.lt, (by simp), trivial⟩ HB ?_ ?_
  · exact ⟨fun s v h => does_val rfl rfl x_build0 rfl,
      fun s v h => does_val rfl rfl (x_move) ((h.same 5 rfl).trans p703),
      fun s v h => does_put_z rfl rfl ((h.same 2 rfl).trans p701) ⟨_, _, _, _, (h.dep 0 rfl)⟩ (h.mono.ok _ _ b720.ok2) h648,
      fun s v h => does_val rfl rfl (x_assign) (h.dep 1 rfl),
      fun s v h => does_val rfl rfl (x_assign) rfl, trivial⟩
  intro g726 ts v726 hts E726
  simp only [fillL, Nat.reduceAdd, List.setIfInBounds_toArray, List.set_cons_zero, List.set_cons_succ] at hts
  subst hts
  have T727 : Below w.heap.size w v726 := T718.trans E726.below
  have l728 : q642 < v717.heap.size := b720.lt
  have e730 : g726 0 = (.agg #[.bool false, .slice none 0 0]) := E726.facts 0 (by decide)
  have e732 : g726 3 = (.int .i64 0) := E726.facts 3 (by decide)
  have e733 : g726 4 = (.int .i64 4) := E726.facts 4 (by decide)
  obtain ⟨t734, b735⟩ := put_lit (E726.facts 2 (by decide)) p701 e730
  have f736 : Cz v726 (.agg #[.bool false, .slice none 0 0]) 0 := cz_zero _
  refine then_normal ?_
  refine wp_ret ?_
  exact bodyPost_ret (ret_ctt rfl p701 b735) rfl ⟨_, rfl, ⟨_, _, _, rfl, f736, e732, e733⟩, T727⟩

set_option maxHeartbeats 4000000 in
set_option maxRecDepth 8000 in
theorem zread_bad1 {w : World} {s : ByteArray} (d1 : decide ((65536 : Int) < (s.size : Int)) = false) (dp : decide ((0 : Int) < (s.size : Int)) = true) (hs0 : 1 < s.size) (dm : ((byteN s 0 : Int) == 45) = true) (dq : decide ((1 : Int) < (s.size : Int)) = true) (dz : ((byteN s 1 : Int) == 48) = false) {m : Nat} (hm0 : 1 ≤ m) (hm : m < s.size) (HG : Hid (∀ j, 1 ≤ j → j < m → ¬ BadF s 1 j)) (hbad : BadF s 1 m)  : Calls Try.prog 99 #[.string s] w (Ret (.tup3 (.cz 0) (.is (.int .i64 (m : Int))) (.is (.int .i64 4))) w) := by
  have hsz : s.size ≤ 65536 := by have := of_decide_eq_false d1; omega
  have T0 : Below w.heap.size w w := Below.refl _ _
  go_enter Try.func99, Try.ntmps99
  refine wp_seq ?_
  have HB : w.heap.size ≤ w.heap.size := T0.size
  refine wp_plan_seq [.new 2 (some (24, #[.bool false, .slice none 0 0])), .val (.is (.int .i64 0)), .val (.is (.int .i64 0))] [] [] w.heap.size (by kernel_rfl) (by kernel_rfl) trivial HB ?_ ?_
  · exact ⟨fun s v h => does_new rfl rfl x_alloc_z (okz _ _ _ _) rfl (.inr rfl),
      fun s v h => does_val rfl rfl (x_assign) rfl,
      fun s v h => does_val rfl rfl (x_assign) rfl, trivial⟩
  intro g737 ts v737 hts E737
  simp only [fillL, Nat.reduceAdd, List.setIfInBounds_toArray, List.set_cons_zero, List.set_cons_succ] at hts
  subst hts
  have T738 : Below w.heap.size w v737 := T0.trans E737.below
  obtain ⟨q741, p742, l743, o744, b745⟩ : ∃ q, g737 0 = .pointer (some ⟨q, 0, none⟩) ∧ w.heap.size ≤ q ∧ OkB v737 q 2 ∧ Bx v737 q 24 #[.bool false, .slice none 0 0] := E737.facts 0 (by decide)
  have f746 : Cz v737 (.agg #[.bool false, .slice none 0 0]) 0 := cz_zero _
  have h747 : w.heap.size ≤ q741 := Nat.le_trans HB l743
  refine then_normal ?_
  refine wp_seq ?_
  refine wp_seq ?_
  have HB : w.heap.size ≤ v737.heap.size := T738.size
  refine wp_plan_seq [.val (.is (.string s)), .val (.is (.int .i64 (s.size : Int))), .val (.is (.bool false))] [] [] w.heap.size (by kernel_rfl) (by kernel_rfl) trivial HB ?_ ?_
  · exact ⟨fun s v h => does_val rfl rfl (x_move) (h.same 0 rfl),
      fun s v h => does_val rfl rfl (x_len_str (h.dep 0 rfl)) rfl,
      fun s v h => does_val rfl rfl (x_gtr (h.dep 1 rfl) rfl) (congrArg Value.bool d1), trivial⟩
  intro g748 ts v748 hts E748
  simp only [fillL, Nat.reduceAdd, List.setIfInBounds_toArray, List.set_cons_zero, List.set_cons_succ] at hts
  subst hts
  have T749 : Below w.heap.size w v748 := T738.trans E748.below
  have l750 : q741 < v737.heap.size := b745.lt
  have b751 : Bx v748 q741 24 #[.bool false, .slice none 0 0] := (E748.far q741 b745.lt (by simp)).trans b745
  have f752 := f746.mono E748.mono
  have e755 : g748 2 = (.bool false) := E748.facts 2 (by decide)
  refine then_normal ?_
  refine wp_cond_false e755 ?_
  refine wp_skip ?_
  refine then_normal ?_
  refine wp_seq ?_
  have HB : w.heap.size ≤ v748.heap.size := T749.size
  refine wp_plan_seq [.val (.is (.int .i64 0))] [] [] w.heap.size (by kernel_rfl) (by kernel_rfl) trivial HB ?_ ?_
  · exact ⟨fun s v h => does_val rfl rfl (x_assign) rfl, trivial⟩
  intro g756 ts v756 hts E756
  simp only [fillL, List.setIfInBounds_toArray, List.set_cons_zero, List.set_cons_succ] at hts
  subst hts
  have T757 : Below w.heap.size w v756 := T749.trans E756.below
  have l758 : q741 < v748.heap.size := b751.lt
  have b759 : Bx v756 q741 24 #[.bool false, .slice none 0 0] := (E756.far q741 b751.lt (by simp)).trans b751
  have f760 := f752.mono E756.mono
  refine then_normal ?_
  refine wp_seq ?_
  refine wp_seq ?_
  have HB : w.heap.size ≤ v756.heap.size := T757.size
  refine wp_plan_seq [.val (.is (.string s)), .val (.is (.int .i64 (s.size : Int))), .val (.is (.bool true)), .val (.is (.bool true)), .val (.is (.string s)), .val (.is (.int .u8 (byteN s 0 : Int))), .val (.is (.bool true)), .val (.is (.bool true))] [] [] w.heap.size (by kernel_rfl) (by kernel_rfl) trivial HB ?_ ?_
  · exact ⟨fun s v h => does_val rfl rfl (x_move) (h.same 0 rfl),
      fun s v h => does_val rfl rfl (x_len_str (h.dep 0 rfl)) rfl,
      fun s v h => does_val rfl rfl (x_gtr (h.dep 1 rfl) rfl) (congrArg Value.bool dp),
      fun s v h => does_val rfl rfl (x_move) (h.dep 2 rfl),
      fun s v h => does_val rfl (wanted_by (b := true) (want := true) rfl rfl (h.dep 3 rfl)) (x_move) (h.same 0 rfl),
      fun s v h => does_val rfl (wanted_by (b := true) (want := true) rfl rfl (h.dep 3 rfl)) (x_index_str (h.dep 4 rfl) (k := 0) rfl (by omega)) rfl,
      fun s v h => does_val rfl (wanted_by (b := true) (want := true) rfl rfl (h.dep 3 rfl)) (x_eql_u8 (h.dep 5 rfl) rfl) (congrArg Value.bool dm),
      fun s v h => does_val rfl rfl (x_pick (h.dep 3 rfl)) (h.dep 6 rfl), trivial⟩
  intro g762 ts v762 hts E762
  simp only [fillL, Nat.reduceAdd, List.setIfInBounds_toArray, List.set_cons_zero, List.set_cons_succ] at hts
  subst hts
  have T763 : Below w.heap.size w v762 := T757.trans E762.below
  have l764 : q741 < v756.heap.size := b759.lt
  have b765 : Bx v762 q741 24 #[.bool false, .slice none 0 0] := (E762.far q741 b759.lt (by simp)).trans b759
  have f766 := f760.mono E762.mono
  have e774 : g762 7 = (.bool true) := E762.facts 7 (by decide)
  refine then_normal ?_
  refine wp_cond_true e774 ?_
  have HB : w.heap.size ≤ v762.heap.size := T763.size
  refine wp_plan_seq [.val (.is (.int .i64 1))] [] [] w.heap.size (by kernel_rfl) (by kernel_rfl) trivial HB ?_ ?_
  · exact ⟨fun s v h => does_val rfl rfl (x_assign) rfl, trivial⟩
  intro g775 ts v775 hts E775
  simp only [fillL, List.setIfInBounds_toArray, List.set_cons_zero, List.set_cons_succ] at hts
  subst hts
  have T776 : Below w.heap.size w v775 := T763.trans E775.below
  have l777 : q741 < v762.heap.size := b765.lt
  have b778 : Bx v775 q741 24 #[.bool false, .slice none 0 0] := (E775.far q741 b765.lt (by simp)).trans b765
  have f779 := f766.mono E775.mono
  have e780 : g775 0 = (.int .i64 1) := E775.facts 0 (by decide)
  refine then_normal ?_
  refine wp_seq ?_
  refine wp_seq ?_
  have HB : w.heap.size ≤ v775.heap.size := T776.size
  refine wp_plan_seq [.val (.is (.int .i64 1)), .val (.is (.bool true)), .val (.is (.bool true)), .val (.is (.string s)), .val (.is (.int .i64 (s.size : Int))), .val (.is (.bool true)), .val (.is (.bool true)), .val (.is (.bool true)), .val (.is (.string s)), .val (.is (.int .u8 (byteN s 1 : Int))), .val (.is (.bool false)), .val (.is (.bool false))] [] [] w.heap.size (by kernel_rfl) (by kernel_rfl) trivial HB ?_ ?_
  · exact ⟨fun s v h => does_val rfl rfl (x_move) ((h.same 5 rfl).trans e780),
      fun s v h => does_val rfl rfl (x_eql_int (h.dep 0 rfl) rfl) rfl,
      fun s v h => does_val rfl rfl (x_move) (h.dep 1 rfl),
      fun s v h => does_val rfl (wanted_by (b := true) (want := true) rfl rfl (h.dep 2 rfl)) (x_move) (h.same 0 rfl),
      fun s v h => does_val rfl (wanted_by (b := true) (want := true) rfl rfl (h.dep 2 rfl)) (x_len_str (h.dep 3 rfl)) rfl,
      fun s v h => does_val rfl (wanted_by (b := true) (want := true) rfl rfl (h.dep 2 rfl)) (x_gtr (h.dep 4 rfl) rfl) (congrArg Value.bool dq),
      fun s v h => does_val rfl rfl (x_pick (h.dep 2 rfl)) (h.dep 5 rfl),
      fun s v h => does_val rfl rfl (x_move) (h.dep 6 rfl),
      fun s v h => does_val rfl (wanted_by (b := true) (want := true) rfl rfl (h.dep 7 rfl)) (x_move) (h.same 0 rfl),
      fun s v h => does_val rfl (wanted_by (b := true) (want := true) rfl rfl (h.dep 7 rfl)) (x_index_str (h.dep 8 rfl) (k := 1) rfl (by omega)) rfl,
      fun s v h => does_val rfl (wanted_by (b := true) (want := true) rfl rfl (h.dep 7 rfl)) (x_eql_u8 (h.dep 9 rfl) rfl) (congrArg Value.bool dz),
      fun s v h => does_val rfl rfl (x_pick (h.dep 7 rfl)) (h.dep 10 rfl), trivial⟩
  intro g781 ts v781 hts E781
  simp only [fillL, Nat.reduceAdd, List.setIfInBounds_toArray, List.set_cons_zero, List.set_cons_succ] at hts
  subst hts
  have T782 : Below w.heap.size w v781 := T776.trans E781.below
  have l783 : q741 < v775.heap.size := b778.lt
  have b784 : Bx v781 q741 24 #[.bool false, .slice none 0 0] := (E781.far q741 b778.lt (by simp)).trans b778
  have f785 := f779.mono E781.mono
  have e797 : g781 11 = (.bool false) := E781.facts 11 (by decide)
  refine then_normal ?_
  refine wp_cond_false e797 ?_
  refine wp_skip ?_
  refine then_normal ?_
  refine wp_seq ?_
  refine wp_seq ?_
  have HB : w.heap.size ≤ v781.heap.size := T782.size
  refine wp_plan_seq [.val (.is (.int .i64 1)), .val (.is (.int .i64 1))] [] [] w.heap.size (by kernel_rfl) (by kernel_rfl) trivial HB ?_ ?_
  · exact ⟨fun s v h => does_val rfl rfl (x_move) ((h.same 5 rfl).trans e780),
      fun s v h => does_val rfl rfl (x_assign) (h.dep 0 rfl), trivial⟩
  intro g798 ts v798 hts E798
  simp only [fillL, Nat.reduceAdd, List.setIfInBounds_toArray, List.set_cons_zero, List.set_cons_succ] at hts
  subst hts
  have T799 : Below w.heap.size w v798 := T782.trans E798.below
  have l800 : q741 < v781.heap.size := b784.lt
  have b801 : Bx v798 q741 24 #[.bool false, .slice none 0 0] := (E798.far q741 b784.lt (by simp)).trans b784
  have f802 := f785.mono E798.mono
  have e804 : g798 1 = (.int .i64 1) := E798.facts 1 (by decide)
  refine then_normal ?_
  refine wp_block ?_
  refine wp_loop_v 109 (fun k y wL => ∃ (i1 : Nat), y 2 = .pointer (some ⟨q741, 0, none⟩) ∧ y 0 = (.string s) ∧ y 5 = (.int .i64 1) ∧ y 6 = (.int .i64 (i1 : Int)) ∧ Below w.heap.size w wL ∧ Bx wL q741 24 #[.bool false, .slice none 0 0] ∧ Cz wL (.agg #[.bool false, .slice none 0 0]) 0 ∧ (1 ≤ i1 ∧ i1 ≤ m) ∧ k = m - i1) rfl rfl ⟨_, 1, p742, rfl, e780, e804, T799, b801, f802, ⟨by omega, by omega⟩, rfl⟩ ?_
  rintro k y805 v805 ⟨i1, p806, p807, p808, p809, T810, b811, f812, ⟨j1, j2⟩, hk⟩
  have hlit : litv 109 y805 = #[y805 0, y805 1, y805 2, y805 3, y805 4, y805 5, y805 6, y805 7, y805 8, y805 9, y805 10, y805 11, y805 12, y805 13, y805 14, y805 15, y805 16, y805 17, y805 18, y805 19, y805 20, y805 21, y805 22, y805 23, y805 24, y805 25, y805 26, y805 27, y805 28, y805 29, y805 30, y805 31, y805 32, y805 33, y805 34, y805 35, y805 36, y805 37, y805 38, y805 39, y805 40, y805 41, y805 42, y805 43, y805 44, y805 45, y805 46, y805 47, y805 48, y805 49, y805 50, y805 51, y805 52, y805 53, y805 54, y805 55, y805 56, y805 57, y805 58, y805 59, y805 60, y805 61, y805 62, y805 63, y805 64, y805 65, y805 66, y805 67, y805 68, y805 69, y805 70, y805 71, y805 72, y805 73, y805 74, y805 75, y805 76, y805 77, y805 78, y805 79, y805 80, y805 81, y805 82, y805 83, y805 84, y805 85, y805 86, y805 87, y805 88, y805 89, y805 90, y805 91, y805 92, y805 93, y805 94, y805 95, y805 96, y805 97, y805 98, y805 99, y805 100, y805 101, y805 102, y805 103, y805 104, y805 105, y805 106, y805 107, y805 108] := rfl
  rw [hlit]
  clear hlit
  rcases scan_bad HG hbad j1 j2 with ⟨hlt, b1, b2, b3, b4⟩ | ⟨hlt, b1, b2, b3⟩ | ⟨hlt, c1⟩ | ⟨hlt, c1, c2⟩ | ⟨hlt, c1, c2, c3, c4⟩
  · skip
    have him : (i1 : Int) < (s.size : Int) := by omega
    have e0 : decide ((i1 : Int) < (s.size : Int)) = true := decide_eq_true him
    refine wp_seq ?_
    refine wp_seq ?_
    have HB : w.heap.size ≤ v805.heap.size := T810.size
    refine wp_plan_seq [.val (.is (.int .i64 (i1 : Int))), .val (.is (.string s)), .val (.is (.int .i64 (s.size : Int))), .val (.is (.bool true))] [] [] w.heap.size (by kernel_rfl) (by kernel_rfl) trivial HB ?_ ?_
    · exact ⟨fun s v h => does_val rfl rfl (x_move) ((h.same 6 rfl).trans p809),
      fun s v h => does_val rfl rfl (x_move) ((h.same 0 rfl).trans p807),
      fun s v h => does_val rfl rfl (x_len_str (h.dep 1 rfl)) rfl,
      fun s v h => does_val rfl rfl (x_lss (h.dep 0 rfl) (h.dep 2 rfl)) (congrArg Value.bool e0), trivial⟩
    intro g813 ts v813 hts E813
    simp only [fillL, Nat.reduceAdd, List.setIfInBounds_toArray, List.set_cons_zero, List.set_cons_succ] at hts
    subst hts
    have T814 : Below w.heap.size w v813 := T810.trans E813.below
    have l815 : q741 < v805.heap.size := b811.lt
    have b816 : Bx v813 q741 24 #[.bool false, .slice none 0 0] := (E813.far q741 b811.lt (by simp)).trans b811
    have f817 := f812.mono E813.mono
    have e821 : g813 3 = (.bool true) := E813.facts 3 (by decide)
    refine then_normal ?_
    refine wp_cond_true e821 ?_
    refine wp_skip ?_
    refine then_normal ?_
    refine wp_seq ?_
    refine wp_block ?_
    refine wp_seq ?_
    have HB : w.heap.size ≤ v813.heap.size := T814.size
    refine wp_plan_seq [.val (.is (.string s)), .val (.is (.int .i64 (i1 : Int))), .val (.is (.int .u8 (byteN s i1 : Int))), .val (.is (.bool false)), .val (.is (.bool false)), .val (.is (.string s)), .val (.is (.int .i64 (i1 : Int))), .val (.is (.int .u8 (byteN s i1 : Int))), .val (.is (.bool false)), .val (.is (.bool false)), .val (.is (.bool false)), .val (.is (.int .i64 (i1 : Int))), .val (.is (.int .i64 1)), .val (.is (.int .i64 (1 + 1))), .val (.is (.bool true)), .val (.is (.bool true)), .val (.is (.string s)), .val (.is (.int .i64 1)), .val (.is (.int .u8 (byteN s 1 : Int))), .val (.is (.bool false)), .val (.is (.bool false)), .val (.is (.bool false))] [] [] w.heap.size (by kernel_rfl) (by kernel_rfl) trivial HB ?_ ?_
    · exact ⟨fun s v h => does_val rfl rfl (x_move) ((h.same 0 rfl).trans p807),
      fun s v h => does_val rfl rfl (x_move) ((h.same 6 rfl).trans p809),
      fun s v h => does_val rfl rfl (x_index_str (h.dep 0 rfl) (k := i1) (h.dep 1 rfl) (by omega)) rfl,
      fun s v h => does_val rfl rfl (x_lss (h.dep 2 rfl) rfl) (congrArg Value.bool b1),
      fun s v h => does_val rfl rfl (x_move) (h.dep 3 rfl),
      fun s v h => does_val rfl (wanted_by (b := false) (want := false) rfl rfl (h.dep 4 rfl)) (x_move) ((h.same 0 rfl).trans p807),
      fun s v h => does_val rfl (wanted_by (b := false) (want := false) rfl rfl (h.dep 4 rfl)) (x_move) ((h.same 6 rfl).trans p809),
      fun s v h => does_val rfl (wanted_by (b := false) (want := false) rfl rfl (h.dep 4 rfl)) (x_index_str (h.dep 5 rfl) (k := i1) (h.dep 6 rfl) (by omega)) rfl,
      fun s v h => does_val rfl (wanted_by (b := false) (want := false) rfl rfl (h.dep 4 rfl)) (x_gtr (h.dep 7 rfl) rfl) (congrArg Value.bool b2),
      fun s v h => does_val rfl rfl (x_pick (h.dep 4 rfl)) (h.dep 8 rfl),
      fun s v h => does_val rfl rfl (x_move) (h.dep 9 rfl),
      fun s v h => does_val rfl (wanted_by (b := false) (want := false) rfl rfl (h.dep 10 rfl)) (x_move) ((h.same 6 rfl).trans p809),
      fun s v h => does_val rfl (wanted_by (b := false) (want := false) rfl rfl (h.dep 10 rfl)) (x_move) ((h.same 5 rfl).trans p808),
      fun s v h => does_val rfl (wanted_by (b := false) (want := false) rfl rfl (h.dep 10 rfl)) (x_add (h.dep 12 rfl) rfl (by rw [IntKind.wrap_i64]; omega)) rfl,
      fun s v h => does_val rfl (wanted_by (b := false) (want := false) rfl rfl (h.dep 10 rfl)) (x_eql_int (h.dep 11 rfl) (h.dep 13 rfl)) (congrArg Value.bool b3),
      fun s v h => does_val rfl (wanted_by (b := false) (want := false) rfl rfl (h.dep 10 rfl)) (x_move) (h.dep 14 rfl),
      fun s v h => does_val rfl (wanted_by (b := true) (want := true) rfl rfl (h.dep 15 rfl)) (x_move) ((h.same 0 rfl).trans p807),
      fun s v h => does_val rfl (wanted_by (b := true) (want := true) rfl rfl (h.dep 15 rfl)) (x_move) ((h.same 5 rfl).trans p808),
      fun s v h => does_val rfl (wanted_by (b := true) (want := true) rfl rfl (h.dep 15 rfl)) (x_index_str (h.dep 16 rfl) (k := 1) (h.dep 17 rfl) (by omega)) rfl,
      fun s v h => does_val rfl (wanted_by (b := true) (want := true) rfl rfl (h.dep 15 rfl)) (x_eql_u8 (h.dep 18 rfl) rfl) (congrArg Value.bool b4),
      fun s v h => does_val rfl (wanted_by (b := false) (want := false) rfl rfl (h.dep 10 rfl)) (x_pick (h.dep 15 rfl)) (h.dep 19 rfl),
      fun s v h => does_val rfl rfl (x_pick (h.dep 10 rfl)) (h.dep 20 rfl), trivial⟩
    intro g822 ts v822 hts E822
    simp only [fillL, Nat.reduceAdd, List.setIfInBounds_toArray, List.set_cons_zero, List.set_cons_succ] at hts
    subst hts
    have T823 : Below w.heap.size w v822 := T814.trans E822.below
    have l824 : q741 < v813.heap.size := b816.lt
    have b825 : Bx v822 q741 24 #[.bool false, .slice none 0 0] := (E822.far q741 b816.lt (by simp)).trans b816
    have f826 := f817.mono E822.mono
    have e848 : g822 21 = (.bool false) := E822.facts 21 (by decide)
    refine then_normal ?_
    refine wp_cond_false e848 ?_
    refine wp_skip ?_
    refine block_normal ?_
    refine then_normal ?_
    have HB : w.heap.size ≤ v822.heap.size := T823.size
    refine wp_plan_seq [.val (.is (.int .i64 (i1 : Int))), .val (.is (.int .i64 ((i1 + 1 : Nat) : Int))), .val (.is (.int .i64 ((i1 + 1 : Nat) : Int)))] [] [] w.heap.size (by kernel_rfl) (by kernel_rfl) trivial HB ?_ ?_
    · exact ⟨fun s v h => does_val rfl rfl (x_move) ((h.soon 2 6 rfl rfl).trans p809),
      fun s v h => does_val rfl rfl (x_add (h.dep 0 rfl) rfl (by rw [IntKind.wrap_i64]; omega)) (congrArg (Value.int .i64) (by omega)),
      fun s v h => does_val rfl rfl (x_assign) (h.dep 1 rfl), trivial⟩
    intro g849 ts v849 hts E849
    simp only [fillL, Nat.reduceAdd, List.setIfInBounds_toArray, List.set_cons_zero, List.set_cons_succ] at hts
    subst hts
    have T850 : Below w.heap.size w v849 := T823.trans E849.below
    have l851 : q741 < v822.heap.size := b825.lt
    have b852 : Bx v849 q741 24 #[.bool false, .slice none 0 0] := (E849.far q741 b825.lt (by simp)).trans b825
    have f853 := f826.mono E849.mono
    have e856 : g849 2 = (.int .i64 ((i1 + 1 : Nat) : Int)) := E849.facts 2 (by decide)
    refine then_normal ?_
    exact ⟨rfl, rfl, _, (by omega), (i1 + 1), p806, p807, p808, e856, T850, b852, f853, ⟨by omega, by omega⟩, rfl⟩
  · skip
    have him : (i1 : Int) < (s.size : Int) := by omega
    have e0 : decide ((i1 : Int) < (s.size : Int)) = true := decide_eq_true him
    refine wp_seq ?_
    refine wp_seq ?_
    have HB : w.heap.size ≤ v805.heap.size := T810.size
    refine wp_plan_seq [.val (.is (.int .i64 (i1 : Int))), .val (.is (.string s)), .val (.is (.int .i64 (s.size : Int))), .val (.is (.bool true))] [] [] w.heap.size (by kernel_rfl) (by kernel_rfl) trivial HB ?_ ?_
    · exact ⟨fun s v h => does_val rfl rfl (x_move) ((h.same 6 rfl).trans p809),
      fun s v h => does_val rfl rfl (x_move) ((h.same 0 rfl).trans p807),
      fun s v h => does_val rfl rfl (x_len_str (h.dep 1 rfl)) rfl,
      fun s v h => does_val rfl rfl (x_lss (h.dep 0 rfl) (h.dep 2 rfl)) (congrArg Value.bool e0), trivial⟩
    intro g857 ts v857 hts E857
    simp only [fillL, Nat.reduceAdd, List.setIfInBounds_toArray, List.set_cons_zero, List.set_cons_succ] at hts
    subst hts
    have T858 : Below w.heap.size w v857 := T810.trans E857.below
    have l859 : q741 < v805.heap.size := b811.lt
    have b860 : Bx v857 q741 24 #[.bool false, .slice none 0 0] := (E857.far q741 b811.lt (by simp)).trans b811
    have f861 := f812.mono E857.mono
    have e865 : g857 3 = (.bool true) := E857.facts 3 (by decide)
    refine then_normal ?_
    refine wp_cond_true e865 ?_
    refine wp_skip ?_
    refine then_normal ?_
    refine wp_seq ?_
    refine wp_block ?_
    refine wp_seq ?_
    have HB : w.heap.size ≤ v857.heap.size := T858.size
    refine wp_plan_seq [.val (.is (.string s)), .val (.is (.int .i64 (i1 : Int))), .val (.is (.int .u8 (byteN s i1 : Int))), .val (.is (.bool false)), .val (.is (.bool false)), .val (.is (.string s)), .val (.is (.int .i64 (i1 : Int))), .val (.is (.int .u8 (byteN s i1 : Int))), .val (.is (.bool false)), .val (.is (.bool false)), .val (.is (.bool false)), .val (.is (.int .i64 (i1 : Int))), .val (.is (.int .i64 1)), .val (.is (.int .i64 (1 + 1))), .val (.is (.bool false)), .val (.is (.bool false)), .val (.is undef), .val (.is undef), .val (.is undef), .val (.is undef), .val (.is (.bool false)), .val (.is (.bool false))] [] [] w.heap.size (by kernel_rfl) (by kernel_rfl) trivial HB ?_ ?_
    · exact ⟨fun s v h => does_val rfl rfl (x_move) ((h.same 0 rfl).trans p807),
      fun s v h => does_val rfl rfl (x_move) ((h.same 6 rfl).trans p809),
      fun s v h => does_val rfl rfl (x_index_str (h.dep 0 rfl) (k := i1) (h.dep 1 rfl) (by omega)) rfl,
      fun s v h => does_val rfl rfl (x_lss (h.dep 2 rfl) rfl) (congrArg Value.bool b1),
      fun s v h => does_val rfl rfl (x_move) (h.dep 3 rfl),
      fun s v h => does_val rfl (wanted_by (b := false) (want := false) rfl rfl (h.dep 4 rfl)) (x_move) ((h.same 0 rfl).trans p807),
      fun s v h => does_val rfl (wanted_by (b := false) (want := false) rfl rfl (h.dep 4 rfl)) (x_move) ((h.same 6 rfl).trans p809),
      fun s v h => does_val rfl (wanted_by (b := false) (want := false) rfl rfl (h.dep 4 rfl)) (x_index_str (h.dep 5 rfl) (k := i1) (h.dep 6 rfl) (by omega)) rfl,
      fun s v h => does_val rfl (wanted_by (b := false) (want := false) rfl rfl (h.dep 4 rfl)) (x_gtr (h.dep 7 rfl) rfl) (congrArg Value.bool b2),
      fun s v h => does_val rfl rfl (x_pick (h.dep 4 rfl)) (h.dep 8 rfl),
      fun s v h => does_val rfl rfl (x_move) (h.dep 9 rfl),
      fun s v h => does_val rfl (wanted_by (b := false) (want := false) rfl rfl (h.dep 10 rfl)) (x_move) ((h.same 6 rfl).trans p809),
      fun s v h => does_val rfl (wanted_by (b := false) (want := false) rfl rfl (h.dep 10 rfl)) (x_move) ((h.same 5 rfl).trans p808),
      fun s v h => does_val rfl (wanted_by (b := false) (want := false) rfl rfl (h.dep 10 rfl)) (x_add (h.dep 12 rfl) rfl (by rw [IntKind.wrap_i64]; omega)) rfl,
      fun s v h => does_val rfl (wanted_by (b := false) (want := false) rfl rfl (h.dep 10 rfl)) (x_eql_int (h.dep 11 rfl) (h.dep 13 rfl)) (congrArg Value.bool b3),
      fun s v h => does_val rfl (wanted_by (b := false) (want := false) rfl rfl (h.dep 10 rfl)) (x_move) (h.dep 14 rfl),
      fun s v h => does_skip rfl (wanted_by (b := false) (want := true) rfl rfl (h.dep 15 rfl)) rfl,
      fun s v h => does_skip rfl (wanted_by (b := false) (want := true) rfl rfl (h.dep 15 rfl)) rfl,
      fun s v h => does_skip rfl (wanted_by (b := false) (want := true) rfl rfl (h.dep 15 rfl)) rfl,
      fun s v h => does_skip rfl (wanted_by (b := false) (want := true) rfl rfl (h.dep 15 rfl)) rfl,
      fun s v h => does_val rfl (wanted_by (b := false) (want := false) rfl rfl (h.dep 10 rfl)) (x_pick (h.dep 15 rfl)) rfl,
      fun s v h => does_val rfl rfl (x_pick (h.dep 10 rfl)) (h.dep 20 rfl), trivial⟩
    intro g866 ts v866 hts E866
    simp only [fillL, Nat.reduceAdd, List.setIfInBounds_toArray, List.set_cons_zero, List.set_cons_succ] at hts
    subst hts
    have T867 : Below w.heap.size w v866 := T858.trans E866.below
    have l868 : q741 < v857.heap.size := b860.lt
    have b869 : Bx v866 q741 24 #[.bool false, .slice none 0 0] := (E866.far q741 b860.lt (by simp)).trans b860
    have f870 := f861.mono E866.mono
    have e892 : g866 21 = (.bool false) := E866.facts 21 (by decide)
    refine then_normal ?_
    refine wp_cond_false e892 ?_
    refine wp_skip ?_
    refine block_normal ?_
    refine then_normal ?_
    have HB : w.heap.size ≤ v866.heap.size := T867.size
    refine wp_plan_seq [.val (.is (.int .i64 (i1 : Int))), .val (.is (.int .i64 ((i1 + 1 : Nat) : Int))), .val (.is (.int .i64 ((i1 + 1 : Nat) : Int)))] [] [] w.heap.size (by kernel_rfl) (by kernel_rfl) trivial HB ?_ ?_
    · exact ⟨fun s v h => does_val rfl rfl (x_move) ((h.soon 2 6 rfl rfl).trans p809),
      fun s v h => does_val rfl rfl (x_add (h.dep 0 rfl) rfl (by rw [IntKind.wrap_i64]; omega)) (congrArg (Value.int .i64) (by omega)),
      fun s v h => does_val rfl rfl (x_assign) (h.dep 1 rfl), trivial⟩
    intro g893 ts v893 hts E893
    simp only [fillL, Nat.reduceAdd, List.setIfInBounds_toArray, List.set_cons_zero, List.set_cons_succ] at hts
    subst hts
    have T894 : Below w.heap.size w v893 := T867.trans E893.below
    have l895 : q741 < v866.heap.size := b869.lt
    have b896 : Bx v893 q741 24 #[.bool false, .slice none 0 0] := (E893.far q741 b869.lt (by simp)).trans b869
    have f897 := f870.mono E893.mono
    have e900 : g893 2 = (.int .i64 ((i1 + 1 : Nat) : Int)) := E893.facts 2 (by decide)
    refine then_normal ?_
    exact ⟨rfl, rfl, _, (by omega), (i1 + 1), p806, p807, p808, e900, T894, b896, f897, ⟨by omega, by omega⟩, rfl⟩
  · skip
    have him : (i1 : Int) < (s.size : Int) := by omega
    have e0 : decide ((i1 : Int) < (s.size : Int)) = true := decide_eq_true him
    refine wp_seq ?_
    refine wp_seq ?_
    have HB : w.heap.size ≤ v805.heap.size := T810.size
    refine wp_plan_seq [.val (.is (.int .i64 (i1 : Int))), .val (.is (.string s)), .val (.is (.int .i64 (s.size : Int))), .val (.is (.bool true))] [] [] w.heap.size (by kernel_rfl) (by kernel_rfl) trivial HB ?_ ?_
    · exact ⟨fun s v h => does_val rfl rfl (x_move) ((h.same 6 rfl).trans p809),
      fun s v h => does_val rfl rfl (x_move) ((h.same 0 rfl).trans p807),
      fun s v h => does_val rfl rfl (x_len_str (h.dep 1 rfl)) rfl,
      fun s v h => does_val rfl rfl (x_lss (h.dep 0 rfl) (h.dep 2 rfl)) (congrArg Value.bool e0), trivial⟩
    intro g901 ts v901 hts E901
    simp only [fillL, Nat.reduceAdd, List.setIfInBounds_toArray, List.set_cons_zero, List.set_cons_succ] at hts
    subst hts
    have T902 : Below w.heap.size w v901 := T810.trans E901.below
    have l903 : q741 < v805.heap.size := b811.lt
    have b904 : Bx v901 q741 24 #[.bool false, .slice none 0 0] := (E901.far q741 b811.lt (by simp)).trans b811
    have e909 : g901 3 = (.bool true) := E901.facts 3 (by decide)
    refine then_normal ?_
    refine wp_cond_true e909 ?_
    refine wp_skip ?_
    refine then_normal ?_
    refine wp_seq ?_
    refine wp_block ?_
    refine wp_seq ?_
    have HB : w.heap.size ≤ v901.heap.size := T902.size
    refine wp_plan_seq [.val (.is (.string s)), .val (.is (.int .i64 (i1 : Int))), .val (.is (.int .u8 (byteN s i1 : Int))), .val (.is (.bool true)), .val (.is (.bool true)), .val (.is undef), .val (.is undef), .val (.is undef), .val (.is undef), .val (.is (.bool true)), .val (.is (.bool true)), .val (.is undef), .val (.is undef), .val (.is undef), .val (.is undef), .val (.is undef), .val (.is undef), .val (.is undef), .val (.is undef), .val (.is undef), .val (.is undef), .val (.is (.bool true))] [] [] w.heap.size (by kernel_rfl) (by kernel_rfl) trivial HB ?_ ?_
    · exact ⟨fun s v h => does_val rfl rfl (x_move) ((h.same 0 rfl).trans p807),
      fun s v h => does_val rfl rfl (x_move) ((h.same 6 rfl).trans p809),
      fun s v h => does_val rfl rfl (x_index_str (h.dep 0 rfl) (k := i1) (h.dep 1 rfl) (by omega)) rfl,
      fun s v h => does_val rfl rfl (x_lss (h.dep 2 rfl) rfl) (congrArg Value.bool c1),
      fun s v h => does_val rfl rfl (x_move) (h.dep 3 rfl),
      fun s v h => does_skip rfl (wanted_by (b := true) (want := false) rfl rfl (h.dep 4 rfl)) rfl,
      fun s v h => does_skip rfl (wanted_by (b := true) (want := false) rfl rfl (h.dep 4 rfl)) rfl,
      fun s v h => does_skip rfl (wanted_by (b := true) (want := false) rfl rfl (h.dep 4 rfl)) rfl,
      fun s v h => does_skip rfl (wanted_by (b := true) (want := false) rfl rfl (h.dep 4 rfl)) rfl,
      fun s v h => does_val rfl rfl (x_pick (h.dep 4 rfl)) rfl,
      fun s v h => does_val rfl rfl (x_move) (h.dep 9 rfl),
      fun s v h => does_skip rfl (wanted_by (b := true) (want := false) rfl rfl (h.dep 10 rfl)) rfl,
      fun s v h => does_skip rfl (wanted_by (b := true) (want := false) rfl rfl (h.dep 10 rfl)) rfl,
      fun s v h => does_skip rfl (wanted_by (b := true) (want := false) rfl rfl (h.dep 10 rfl)) rfl,
      fun s v h => does_skip rfl (wanted_by (b := true) (want := false) rfl rfl (h.dep 10 rfl)) rfl,
      fun s v h => does_skip rfl (wanted_by (b := true) (want := false) rfl rfl (h.dep 10 rfl)) rfl,
      fun s v h => does_skip rfl (unwanted_by (want := true) rfl rfl (h.dep 15 rfl)) rfl,
      fun s v h => does_skip rfl (unwanted_by (want := true) rfl rfl (h.dep 15 rfl)) rfl,
      fun s v h => does_skip rfl (unwanted_by (want := true) rfl rfl (h.dep 15 rfl)) rfl,
      fun s v h => does_skip rfl (unwanted_by (want := true) rfl rfl (h.dep 15 rfl)) rfl,
      fun s v h => does_skip rfl (wanted_by (b := true) (want := false) rfl rfl (h.dep 10 rfl)) rfl,
      fun s v h => does_val rfl rfl (x_pick (h.dep 10 rfl)) rfl, trivial⟩
    intro g910 ts v910 hts E910
    simp only [fillL, Nat.reduceAdd, List.setIfInBounds_toArray, List.set_cons_zero, List.set_cons_succ] at hts
    subst hts
    have T911 : Below w.heap.size w v910 := T902.trans E910.below
    have l912 : q741 < v901.heap.size := b904.lt
    have b913 : Bx v910 q741 24 #[.bool false, .slice none 0 0] := (E910.far q741 b904.lt (by simp)).trans b904
    have e936 : g910 21 = (.bool true) := E910.facts 21 (by decide)
    refine then_normal ?_
    refine wp_cond_true e936 ?_
    refine wp_seq ?_
    have HB : w.heap.size ≤ v910.heap.size := T911.size
    refine wp_plan_seq [.val (.is (.agg #[.bool false, .slice none 0 0])), .val (.is (.int .i64 (i1 : Int))), .put 2 65, .val (.is (.int .i64 (i1 : Int))), .val (.is (.int .i64 4))] [2] [q741] w.heap.size (by kernel_rfl) (by kernel_rfl) ⟨p806, b913.lt, (by simp), trivial⟩ HB ?_ ?_
    · exact ⟨fun s v h => does_val rfl rfl x_build0 rfl,
      fun s v h => does_val rfl rfl (x_move) ((h.same 6 rfl).trans p809),
      fun s v h => does_put_z rfl rfl ((h.same 2 rfl).trans p806) ⟨_, _, _, _, (h.dep 0 rfl)⟩ (h.mono.ok _ _ b913.ok2) h747,
      fun s v h => does_val rfl rfl (x_assign) (h.dep 1 rfl),
      fun s v h => does_val rfl rfl (x_assign) rfl, trivial⟩
    intro g937 ts v937 hts E937
    simp only [fillL, Nat.reduceAdd, List.setIfInBounds_toArray, List.set_cons_zero, List.set_cons_succ] at hts
    subst hts
    have T938 : Below w.heap.size w v937 := T911.trans E937.below
    have l939 : q741 < v910.heap.size := b913.lt
    have e941 : g937 0 = (.agg #[.bool false, .slice none 0 0]) := E937.facts 0 (by decide)
    have e943 : g937 3 = (.int .i64 (i1 : Int)) := E937.facts 3 (by decide)
    have e944 : g937 4 = (.int .i64 4) := E937.facts 4 (by decide)
    obtain ⟨t945, b946⟩ := put_lit (E937.facts 2 (by decide)) p806 e941
    have f947 : Cz v937 (.agg #[.bool false, .slice none 0 0]) 0 := cz_zero _
    refine then_normal ?_
    refine wp_ret ?_
    exact bodyPost_ret (ret_ctt rfl p806 b946) rfl ⟨_, rfl, ⟨_, _, _, rfl, f947, (by have := e943; rw [hlt] at this; exact this), e944⟩, T938⟩
  · skip
    have him : (i1 : Int) < (s.size : Int) := by omega
    have e0 : decide ((i1 : Int) < (s.size : Int)) = true := decide_eq_true him
    refine wp_seq ?_
    refine wp_seq ?_
    have HB : w.heap.size ≤ v805.heap.size := T810.size
    refine wp_plan_seq [.val (.is (.int .i64 (i1 : Int))), .val (.is (.string s)), .val (.is (.int .i64 (s.size : Int))), .val (.is (.bool true))] [] [] w.heap.size (by kernel_rfl) (by kernel_rfl) trivial HB ?_ ?_
    · exact ⟨fun s v h => does_val rfl rfl (x_move) ((h.same 6 rfl).trans p809),
      fun s v h => does_val rfl rfl (x_move) ((h.same 0 rfl).trans p807),
      fun s v h => does_val rfl rfl (x_len_str (h.dep 1 rfl)) rfl,
      fun s v h => does_val rfl rfl (x_lss (h.dep 0 rfl) (h.dep 2 rfl)) (congrArg Value.bool e0), trivial⟩
    intro g948 ts v948 hts E948
    simp only [fillL, Nat.reduceAdd, List.setIfInBounds_toArray, List.set_cons_zero, List.set_cons_succ] at hts
    subst hts
    have T949 : Below w.heap.size w v948 := T810.trans E948.below
    have l950 : q741 < v805.heap.size := b811.lt
    have b951 : Bx v948 q741 24 #[.bool false, .slice none 0 0] := (E948.far q741 b811.lt (by simp)).trans b811
    have e956 : g948 3 = (.bool true) := E948.facts 3 (by decide)
    refine then_normal ?_
    refine wp_cond_true e956 ?_
    refine wp_skip ?_
    refine then_normal ?_
    refine wp_seq ?_
    refine wp_block ?_
    refine wp_seq ?_
    have HB : w.heap.size ≤ v948.heap.size := T949.size
    refine wp_plan_seq [.val (.is (.string s)), .val (.is (.int .i64 (i1 : Int))), .val (.is (.int .u8 (byteN s i1 : Int))), .val (.is (.bool false)), .val (.is (.bool false)), .val (.is (.string s)), .val (.is (.int .i64 (i1 : Int))), .val (.is (.int .u8 (byteN s i1 : Int))), .val (.is (.bool true)), .val (.is (.bool true)), .val (.is (.bool true)), .val (.is undef), .val (.is undef), .val (.is undef), .val (.is undef), .val (.is undef), .val (.is undef), .val (.is undef), .val (.is undef), .val (.is undef), .val (.is undef), .val (.is (.bool true))] [] [] w.heap.size (by kernel_rfl) (by kernel_rfl) trivial HB ?_ ?_
    · exact ⟨fun s v h => does_val rfl rfl (x_move) ((h.same 0 rfl).trans p807),
      fun s v h => does_val rfl rfl (x_move) ((h.same 6 rfl).trans p809),
      fun s v h => does_val rfl rfl (x_index_str (h.dep 0 rfl) (k := i1) (h.dep 1 rfl) (by omega)) rfl,
      fun s v h => does_val rfl rfl (x_lss (h.dep 2 rfl) rfl) (congrArg Value.bool c1),
      fun s v h => does_val rfl rfl (x_move) (h.dep 3 rfl),
      fun s v h => does_val rfl (wanted_by (b := false) (want := false) rfl rfl (h.dep 4 rfl)) (x_move) ((h.same 0 rfl).trans p807),
      fun s v h => does_val rfl (wanted_by (b := false) (want := false) rfl rfl (h.dep 4 rfl)) (x_move) ((h.same 6 rfl).trans p809),
      fun s v h => does_val rfl (wanted_by (b := false) (want := false) rfl rfl (h.dep 4 rfl)) (x_index_str (h.dep 5 rfl) (k := i1) (h.dep 6 rfl) (by omega)) rfl,
      fun s v h => does_val rfl (wanted_by (b := false) (want := false) rfl rfl (h.dep 4 rfl)) (x_gtr (h.dep 7 rfl) rfl) (congrArg Value.bool c2),
      fun s v h => does_val rfl rfl (x_pick (h.dep 4 rfl)) (h.dep 8 rfl),
      fun s v h => does_val rfl rfl (x_move) (h.dep 9 rfl),
      fun s v h => does_skip rfl (wanted_by (b := true) (want := false) rfl rfl (h.dep 10 rfl)) rfl,
      fun s v h => does_skip rfl (wanted_by (b := true) (want := false) rfl rfl (h.dep 10 rfl)) rfl,
      fun s v h => does_skip rfl (wanted_by (b := true) (want := false) rfl rfl (h.dep 10 rfl)) rfl,
      fun s v h => does_skip rfl (wanted_by (b := true) (want := false) rfl rfl (h.dep 10 rfl)) rfl,
      fun s v h => does_skip rfl (wanted_by (b := true) (want := false) rfl rfl (h.dep 10 rfl)) rfl,
      fun s v h => does_skip rfl (unwanted_by (want := true) rfl rfl (h.dep 15 rfl)) rfl,
      fun s v h => does_skip rfl (unwanted_by (want := true) rfl rfl (h.dep 15 rfl)) rfl,
      fun s v h => does_skip rfl (unwanted_by (want := true) rfl rfl (h.dep 15 rfl)) rfl,
      fun s v h => does_skip rfl (unwanted_by (want := true) rfl rfl (h.dep 15 rfl)) rfl,
      fun s v h => does_skip rfl (wanted_by (b := true) (want := false) rfl rfl (h.dep 10 rfl)) rfl,
      fun s v h => does_val rfl rfl (x_pick (h.dep 10 rfl)) rfl, trivial⟩
    intro g957 ts v957 hts E957
    simp only [fillL, Nat.reduceAdd, List.setIfInBounds_toArray, List.set_cons_zero, List.set_cons_succ] at hts
    subst hts
    have T958 : Below w.heap.size w v957 := T949.trans E957.below
    have l959 : q741 < v948.heap.size := b951.lt
    have b960 : Bx v957 q741 24 #[.bool false, .slice none 0 0] := (E957.far q741 b951.lt (by simp)).trans b951
    have e983 : g957 21 = (.bool true) := E957.facts 21 (by decide)
    refine then_normal ?_
    refine wp_cond_true e983 ?_
    refine wp_seq ?_
    have HB : w.heap.size ≤ v957.heap.size := T958.size
    refine wp_plan_seq [.val (.is (.agg #[.bool false, .slice none 0 0])), .val (.is (.int .i64 (i1 : Int))), .put 2 65, .val (.is (.int .i64 (i1 : Int))), .val (.is (.int .i64 4))] [2] [q741] w.heap.size (by kernel_rfl) (by kernel_rfl) ⟨p806, b960.lt, (by simp), trivial⟩ HB ?_ ?_
    · exact ⟨fun s v h => does_val rfl rfl x_build0 rfl,
      fun s v h => does_val rfl rfl (x_move) ((h.same 6 rfl).trans p809),
      fun s v h => does_put_z rfl rfl ((h.same 2 rfl).trans p806) ⟨_, _, _, _, (h.dep 0 rfl)⟩ (h.mono.ok _ _ b960.ok2) h747,
      fun s v h => does_val rfl rfl (x_assign) (h.dep 1 rfl),
      fun s v h => does_val rfl rfl (x_assign) rfl, trivial⟩
    intro g984 ts v984 hts E984
    simp only [fillL, Nat.reduceAdd, List.setIfInBounds_toArray, List.set_cons_zero, List.set_cons_succ] at hts
    subst hts
    have T985 : Below w.heap.size w v984 := T958.trans E984.below
    have l986 : q741 < v957.heap.size := b960.lt
    have e988 : g984 0 = (.agg #[.bool false, .slice none 0 0]) := E984.facts 0 (by decide)
    have e990 : g984 3 = (.int .i64 (i1 : Int)) := E984.facts 3 (by decide)
    have e991 : g984 4 = (.int .i64 4) := E984.facts 4 (by decide)
    obtain ⟨t992, b993⟩ := put_lit (E984.facts 2 (by decide)) p806 e988
    have f994 : Cz v984 (.agg #[.bool false, .slice none 0 0]) 0 := cz_zero _
    refine then_normal ?_
    refine wp_ret ?_
    exact bodyPost_ret (ret_ctt rfl p806 b993) rfl ⟨_, rfl, ⟨_, _, _, rfl, f994, (by have := e990; rw [hlt] at this; exact this), e991⟩, T985⟩
  · skip
    have him : (i1 : Int) < (s.size : Int) := by omega
    have e0 : decide ((i1 : Int) < (s.size : Int)) = true := decide_eq_true him
    refine wp_seq ?_
    refine wp_seq ?_
    have HB : w.heap.size ≤ v805.heap.size := T810.size
    refine wp_plan_seq [.val (.is (.int .i64 (i1 : Int))), .val (.is (.string s)), .val (.is (.int .i64 (s.size : Int))), .val (.is (.bool true))] [] [] w.heap.size (by kernel_rfl) (by kernel_rfl) trivial HB ?_ ?_
    · exact ⟨fun s v h => does_val rfl rfl (x_move) ((h.same 6 rfl).trans p809),
      fun s v h => does_val rfl rfl (x_move) ((h.same 0 rfl).trans p807),
      fun s v h => does_val rfl rfl (x_len_str (h.dep 1 rfl)) rfl,
      fun s v h => does_val rfl rfl (x_lss (h.dep 0 rfl) (h.dep 2 rfl)) (congrArg Value.bool e0), trivial⟩
    intro g995 ts v995 hts E995
    simp only [fillL, Nat.reduceAdd, List.setIfInBounds_toArray, List.set_cons_zero, List.set_cons_succ] at hts
    subst hts
    have T996 : Below w.heap.size w v995 := T810.trans E995.below
    have l997 : q741 < v805.heap.size := b811.lt
    have b998 : Bx v995 q741 24 #[.bool false, .slice none 0 0] := (E995.far q741 b811.lt (by simp)).trans b811
    have e1003 : g995 3 = (.bool true) := E995.facts 3 (by decide)
    refine then_normal ?_
    refine wp_cond_true e1003 ?_
    refine wp_skip ?_
    refine then_normal ?_
    refine wp_seq ?_
    refine wp_block ?_
    refine wp_seq ?_
    have HB : w.heap.size ≤ v995.heap.size := T996.size
    refine wp_plan_seq [.val (.is (.string s)), .val (.is (.int .i64 (i1 : Int))), .val (.is (.int .u8 (byteN s i1 : Int))), .val (.is (.bool false)), .val (.is (.bool false)), .val (.is (.string s)), .val (.is (.int .i64 (i1 : Int))), .val (.is (.int .u8 (byteN s i1 : Int))), .val (.is (.bool false)), .val (.is (.bool false)), .val (.is (.bool false)), .val (.is (.int .i64 (i1 : Int))), .val (.is (.int .i64 1)), .val (.is (.int .i64 (1 + 1))), .val (.is (.bool true)), .val (.is (.bool true)), .val (.is (.string s)), .val (.is (.int .i64 1)), .val (.is (.int .u8 (byteN s 1 : Int))), .val (.is (.bool true)), .val (.is (.bool true)), .val (.is (.bool true))] [] [] w.heap.size (by kernel_rfl) (by kernel_rfl) trivial HB ?_ ?_
    · exact ⟨fun s v h => does_val rfl rfl (x_move) ((h.same 0 rfl).trans p807),
      fun s v h => does_val rfl rfl (x_move) ((h.same 6 rfl).trans p809),
      fun s v h => does_val rfl rfl (x_index_str (h.dep 0 rfl) (k := i1) (h.dep 1 rfl) (by omega)) rfl,
      fun s v h => does_val rfl rfl (x_lss (h.dep 2 rfl) rfl) (congrArg Value.bool c1),
      fun s v h => does_val rfl rfl (x_move) (h.dep 3 rfl),
      fun s v h => does_val rfl (wanted_by (b := false) (want := false) rfl rfl (h.dep 4 rfl)) (x_move) ((h.same 0 rfl).trans p807),
      fun s v h => does_val rfl (wanted_by (b := false) (want := false) rfl rfl (h.dep 4 rfl)) (x_move) ((h.same 6 rfl).trans p809),
      fun s v h => does_val rfl (wanted_by (b := false) (want := false) rfl rfl (h.dep 4 rfl)) (x_index_str (h.dep 5 rfl) (k := i1) (h.dep 6 rfl) (by omega)) rfl,
      fun s v h => does_val rfl (wanted_by (b := false) (want := false) rfl rfl (h.dep 4 rfl)) (x_gtr (h.dep 7 rfl) rfl) (congrArg Value.bool c2),
      fun s v h => does_val rfl rfl (x_pick (h.dep 4 rfl)) (h.dep 8 rfl),
      fun s v h => does_val rfl rfl (x_move) (h.dep 9 rfl),
      fun s v h => does_val rfl (wanted_by (b := false) (want := false) rfl rfl (h.dep 10 rfl)) (x_move) ((h.same 6 rfl).trans p809),
      fun s v h => does_val rfl (wanted_by (b := false) (want := false) rfl rfl (h.dep 10 rfl)) (x_move) ((h.same 5 rfl).trans p808),
      fun s v h => does_val rfl (wanted_by (b := false) (want := false) rfl rfl (h.dep 10 rfl)) (x_add (h.dep 12 rfl) rfl (by rw [IntKind.wrap_i64]; omega)) rfl,
      fun s v h => does_val rfl (wanted_by (b := false) (want := false) rfl rfl (h.dep 10 rfl)) (x_eql_int (h.dep 11 rfl) (h.dep 13 rfl)) (congrArg Value.bool c3),
      fun s v h => does_val rfl (wanted_by (b := false) (want := false) rfl rfl (h.dep 10 rfl)) (x_move) (h.dep 14 rfl),
      fun s v h => does_val rfl (wanted_by (b := true) (want := true) rfl rfl (h.dep 15 rfl)) (x_move) ((h.same 0 rfl).trans p807),
      fun s v h => does_val rfl (wanted_by (b := true) (want := true) rfl rfl (h.dep 15 rfl)) (x_move) ((h.same 5 rfl).trans p808),
      fun s v h => does_val rfl (wanted_by (b := true) (want := true) rfl rfl (h.dep 15 rfl)) (x_index_str (h.dep 16 rfl) (k := 1) (h.dep 17 rfl) (by omega)) rfl,
      fun s v h => does_val rfl (wanted_by (b := true) (want := true) rfl rfl (h.dep 15 rfl)) (x_eql_u8 (h.dep 18 rfl) rfl) (congrArg Value.bool c4),
      fun s v h => does_val rfl (wanted_by (b := false) (want := false) rfl rfl (h.dep 10 rfl)) (x_pick (h.dep 15 rfl)) (h.dep 19 rfl),
      fun s v h => does_val rfl rfl (x_pick (h.dep 10 rfl)) (h.dep 20 rfl), trivial⟩
    intro g1004 ts v1004 hts E1004
    simp only [fillL, Nat.reduceAdd, List.setIfInBounds_toArray, List.set_cons_zero, List.set_cons_succ] at hts
    subst hts
    have T1005 : Below w.heap.size w v1004 := T996.trans E1004.below
    have l1006 : q741 < v995.heap.size := b998.lt
    have b1007 : Bx v1004 q741 24 #[.bool false, .slice none 0 0] := (E1004.far q741 b998.lt (by simp)).trans b998
    have e1030 : g1004 21 = (.bool true) := E1004.facts 21 (by decide)
    refine then_normal ?_
    refine wp_cond_true e1030 ?_
    refine wp_seq ?_
    have HB : w.heap.size ≤ v1004.heap.size := T1005.size
    refine wp_plan_seq [.val (.is (.agg #[.bool false, .slice none 0 0])), .val (.is (.int .i64 (i1 : Int))), .put 2 65, .val (.is (.int .i64 (i1 : Int))), .val (.is (.int .i64 4))] [2] [q741] w.heap.size (by kernel_rfl) (by kernel_rfl) ⟨p806, b1007.lt, (by simp), trivial⟩ HB ?_ ?_
    · exact ⟨fun s v h => does_val rfl rfl x_build0 rfl,
      fun s v h => does_val rfl rfl (x_move) ((h.same 6 rfl).trans p809),
      fun s v h => does_put_z rfl rfl ((h.same 2 rfl).trans p806) ⟨_, _, _, _, (h.dep 0 rfl)⟩ (h.mono.ok _ _ b1007.ok2) h747,
      fun s v h => does_val rfl rfl (x_assign) (h.dep 1 rfl),
      fun s v h => does_val rfl rfl (x_assign) rfl, trivial⟩
    intro g1031 ts v1031 hts E1031
    simp only [fillL, Nat.reduceAdd, List.setIfInBounds_toArray, List.set_cons_zero, List.set_cons_succ] at hts
    subst hts
    have T1032 : Below w.heap.size w v1031 := T1005.trans E1031.below
    have l1033 : q741 < v1004.heap.size := b1007.lt
    have e1035 : g1031 0 = (.agg #[.bool false, .slice none 0 0]) := E1031.facts 0 (by decide)
    have e1037 : g1031 3 = (.int .i64 (i1 : Int)) := E1031.facts 3 (by decide)
    have e1038 : g1031 4 = (.int .i64 4) := E1031.facts 4 (by decide)
    obtain ⟨t1039, b1040⟩ := put_lit (E1031.facts 2 (by decide)) p806 e1035
    have f1041 : Cz v1031 (.agg #[.bool false, .slice none 0 0]) 0 := cz_zero _
    refine then_normal ?_
    refine wp_ret ?_
    exact bodyPost_ret (ret_ctt rfl p806 b1040) rfl ⟨_, rfl, ⟨_, _, _, rfl, f1041, (by have := e1037; rw [hlt] at this; exact this), e1038⟩, T1032⟩

set_option maxHeartbeats 4000000 in
set_option maxRecDepth 8000 in
theorem zread_ok1 {w : World} {s : ByteArray} (d1 : decide ((65536 : Int) < (s.size : Int)) = false) (dp : decide ((0 : Int) < (s.size : Int)) = true) (hs0 : 1 < s.size) (dm : ((byteN s 0 : Int) == 45) = true) (dq : decide ((1 : Int) < (s.size : Int)) = true) (dz : ((byteN s 1 : Int) == 48) = false) (dn : ((1 : Int) == (s.size : Int)) = false) {m : Nat} (hms : m = s.size) (HG : Hid (∀ j, 1 ≤ j → j < m → ¬ BadF s 1 j)) (HD : Hid (∀ j, 1 ≤ j → j < s.size → 48 ≤ byteN s j ∧ byteN s j ≤ 57))  : Calls Try.prog 99 #[.string s] w (Ret (.tup3 (.cz (zof true (dvFrom s 1 (s.size - 1)))) (.is (.int .i64 0)) (.is (.int .i64 0))) w) := by
  have hsz : s.size ≤ 65536 := by have := of_decide_eq_false d1; omega
  have T0 : Below w.heap.size w w := Below.refl _ _
  go_enter Try.func99, Try.ntmps99
  refine wp_seq ?_
  have HB : w.heap.size ≤ w.heap.size := T0.size
  refine wp_plan_seq [.new 2 (some (24, #[.bool false, .slice none 0 0])), .val (.is (.int .i64 0)), .val (.is (.int .i64 0))] [] [] w.heap.size (by kernel_rfl) (by kernel_rfl) trivial HB ?_ ?_
  · exact ⟨fun s v h => does_new rfl rfl x_alloc_z (okz _ _ _ _) rfl (.inr rfl),
      fun s v h => does_val rfl rfl (x_assign) rfl,
      fun s v h => does_val rfl rfl (x_assign) rfl, trivial⟩
  intro g1042 ts v1042 hts E1042
  simp only [fillL, Nat.reduceAdd, List.setIfInBounds_toArray, List.set_cons_zero, List.set_cons_succ] at hts
  subst hts
  have T1043 : Below w.heap.size w v1042 := T0.trans E1042.below
  obtain ⟨q1046, p1047, l1048, o1049, b1050⟩ : ∃ q, g1042 0 = .pointer (some ⟨q, 0, none⟩) ∧ w.heap.size ≤ q ∧ OkB v1042 q 2 ∧ Bx v1042 q 24 #[.bool false, .slice none 0 0] := E1042.facts 0 (by decide)
  have f1051 : Cz v1042 (.agg #[.bool false, .slice none 0 0]) 0 := cz_zero _
  have h1052 : w.heap.size ≤ q1046 := Nat.le_trans HB l1048
  refine then_normal ?_
  refine wp_seq ?_
  refine wp_seq ?_
  have HB : w.heap.size ≤ v1042.heap.size := T1043.size
  refine wp_plan_seq [.val (.is (.string s)), .val (.is (.int .i64 (s.size : Int))), .val (.is (.bool false))] [] [] w.heap.size (by kernel_rfl) (by kernel_rfl) trivial HB ?_ ?_
  · exact ⟨fun s v h => does_val rfl rfl (x_move) (h.same 0 rfl),
      fun s v h => does_val rfl rfl (x_len_str (h.dep 0 rfl)) rfl,
      fun s v h => does_val rfl rfl (x_gtr (h.dep 1 rfl) rfl) (congrArg Value.bool d1), trivial⟩
  intro g1053 ts v1053 hts E1053
  simp only [fillL, Nat.reduceAdd, List.setIfInBounds_toArray, List.set_cons_zero, List.set_cons_succ] at hts
  subst hts
  have T1054 : Below w.heap.size w v1053 := T1043.trans E1053.below
  have l1055 : q1046 < v1042.heap.size := b1050.lt
  have b1056 : Bx v1053 q1046 24 #[.bool false, .slice none 0 0] := (E1053.far q1046 b1050.lt (by simp)).trans b1050
  have f1057 := f1051.mono E1053.mono
  have e1060 : g1053 2 = (.bool false) := E1053.facts 2 (by decide)
  refine then_normal ?_
  refine wp_cond_false e1060 ?_
  refine wp_skip ?_
  refine then_normal ?_
  refine wp_seq ?_
  have HB : w.heap.size ≤ v1053.heap.size := T1054.size
  refine wp_plan_seq [.val (.is (.int .i64 0))] [] [] w.heap.size (by kernel_rfl) (by kernel_rfl) trivial HB ?_ ?_
  · exact ⟨fun s v h => does_val rfl rfl (x_assign) rfl, trivial⟩
  intro g1061 ts v1061 hts E1061
  simp only [fillL, List.setIfInBounds_toArray, List.set_cons_zero, List.set_cons_succ] at hts
  subst hts
  have T1062 : Below w.heap.size w v1061 := T1054.trans E1061.below
  have l1063 : q1046 < v1053.heap.size := b1056.lt
  have b1064 : Bx v1061 q1046 24 #[.bool false, .slice none 0 0] := (E1061.far q1046 b1056.lt (by simp)).trans b1056
  have f1065 := f1057.mono E1061.mono
  refine then_normal ?_
  refine wp_seq ?_
  refine wp_seq ?_
  have HB : w.heap.size ≤ v1061.heap.size := T1062.size
  refine wp_plan_seq [.val (.is (.string s)), .val (.is (.int .i64 (s.size : Int))), .val (.is (.bool true)), .val (.is (.bool true)), .val (.is (.string s)), .val (.is (.int .u8 (byteN s 0 : Int))), .val (.is (.bool true)), .val (.is (.bool true))] [] [] w.heap.size (by kernel_rfl) (by kernel_rfl) trivial HB ?_ ?_
  · exact ⟨fun s v h => does_val rfl rfl (x_move) (h.same 0 rfl),
      fun s v h => does_val rfl rfl (x_len_str (h.dep 0 rfl)) rfl,
      fun s v h => does_val rfl rfl (x_gtr (h.dep 1 rfl) rfl) (congrArg Value.bool dp),
      fun s v h => does_val rfl rfl (x_move) (h.dep 2 rfl),
      fun s v h => does_val rfl (wanted_by (b := true) (want := true) rfl rfl (h.dep 3 rfl)) (x_move) (h.same 0 rfl),
      fun s v h => does_val rfl (wanted_by (b := true) (want := true) rfl rfl (h.dep 3 rfl)) (x_index_str (h.dep 4 rfl) (k := 0) rfl (by omega)) rfl,
      fun s v h => does_val rfl (wanted_by (b := true) (want := true) rfl rfl (h.dep 3 rfl)) (x_eql_u8 (h.dep 5 rfl) rfl) (congrArg Value.bool dm),
      fun s v h => does_val rfl rfl (x_pick (h.dep 3 rfl)) (h.dep 6 rfl), trivial⟩
  intro g1067 ts v1067 hts E1067
  simp only [fillL, Nat.reduceAdd, List.setIfInBounds_toArray, List.set_cons_zero, List.set_cons_succ] at hts
  subst hts
  have T1068 : Below w.heap.size w v1067 := T1062.trans E1067.below
  have l1069 : q1046 < v1061.heap.size := b1064.lt
  have b1070 : Bx v1067 q1046 24 #[.bool false, .slice none 0 0] := (E1067.far q1046 b1064.lt (by simp)).trans b1064
  have f1071 := f1065.mono E1067.mono
  have e1079 : g1067 7 = (.bool true) := E1067.facts 7 (by decide)
  refine then_normal ?_
  refine wp_cond_true e1079 ?_
  have HB : w.heap.size ≤ v1067.heap.size := T1068.size
  refine wp_plan_seq [.val (.is (.int .i64 1))] [] [] w.heap.size (by kernel_rfl) (by kernel_rfl) trivial HB ?_ ?_
  · exact ⟨fun s v h => does_val rfl rfl (x_assign) rfl, trivial⟩
  intro g1080 ts v1080 hts E1080
  simp only [fillL, List.setIfInBounds_toArray, List.set_cons_zero, List.set_cons_succ] at hts
  subst hts
  have T1081 : Below w.heap.size w v1080 := T1068.trans E1080.below
  have l1082 : q1046 < v1067.heap.size := b1070.lt
  have b1083 : Bx v1080 q1046 24 #[.bool false, .slice none 0 0] := (E1080.far q1046 b1070.lt (by simp)).trans b1070
  have f1084 := f1071.mono E1080.mono
  have e1085 : g1080 0 = (.int .i64 1) := E1080.facts 0 (by decide)
  refine then_normal ?_
  refine wp_seq ?_
  refine wp_seq ?_
  have HB : w.heap.size ≤ v1080.heap.size := T1081.size
  refine wp_plan_seq [.val (.is (.int .i64 1)), .val (.is (.bool true)), .val (.is (.bool true)), .val (.is (.string s)), .val (.is (.int .i64 (s.size : Int))), .val (.is (.bool true)), .val (.is (.bool true)), .val (.is (.bool true)), .val (.is (.string s)), .val (.is (.int .u8 (byteN s 1 : Int))), .val (.is (.bool false)), .val (.is (.bool false))] [] [] w.heap.size (by kernel_rfl) (by kernel_rfl) trivial HB ?_ ?_
  · exact ⟨fun s v h => does_val rfl rfl (x_move) ((h.same 5 rfl).trans e1085),
      fun s v h => does_val rfl rfl (x_eql_int (h.dep 0 rfl) rfl) rfl,
      fun s v h => does_val rfl rfl (x_move) (h.dep 1 rfl),
      fun s v h => does_val rfl (wanted_by (b := true) (want := true) rfl rfl (h.dep 2 rfl)) (x_move) (h.same 0 rfl),
      fun s v h => does_val rfl (wanted_by (b := true) (want := true) rfl rfl (h.dep 2 rfl)) (x_len_str (h.dep 3 rfl)) rfl,
      fun s v h => does_val rfl (wanted_by (b := true) (want := true) rfl rfl (h.dep 2 rfl)) (x_gtr (h.dep 4 rfl) rfl) (congrArg Value.bool dq),
      fun s v h => does_val rfl rfl (x_pick (h.dep 2 rfl)) (h.dep 5 rfl),
      fun s v h => does_val rfl rfl (x_move) (h.dep 6 rfl),
      fun s v h => does_val rfl (wanted_by (b := true) (want := true) rfl rfl (h.dep 7 rfl)) (x_move) (h.same 0 rfl),
      fun s v h => does_val rfl (wanted_by (b := true) (want := true) rfl rfl (h.dep 7 rfl)) (x_index_str (h.dep 8 rfl) (k := 1) rfl (by omega)) rfl,
      fun s v h => does_val rfl (wanted_by (b := true) (want := true) rfl rfl (h.dep 7 rfl)) (x_eql_u8 (h.dep 9 rfl) rfl) (congrArg Value.bool dz),
      fun s v h => does_val rfl rfl (x_pick (h.dep 7 rfl)) (h.dep 10 rfl), trivial⟩
  intro g1086 ts v1086 hts E1086
  simp only [fillL, Nat.reduceAdd, List.setIfInBounds_toArray, List.set_cons_zero, List.set_cons_succ] at hts
  subst hts
  have T1087 : Below w.heap.size w v1086 := T1081.trans E1086.below
  have l1088 : q1046 < v1080.heap.size := b1083.lt
  have b1089 : Bx v1086 q1046 24 #[.bool false, .slice none 0 0] := (E1086.far q1046 b1083.lt (by simp)).trans b1083
  have f1090 := f1084.mono E1086.mono
  have e1102 : g1086 11 = (.bool false) := E1086.facts 11 (by decide)
  refine then_normal ?_
  refine wp_cond_false e1102 ?_
  refine wp_skip ?_
  refine then_normal ?_
  refine wp_seq ?_
  refine wp_seq ?_
  have HB : w.heap.size ≤ v1086.heap.size := T1087.size
  refine wp_plan_seq [.val (.is (.int .i64 1)), .val (.is (.int .i64 1))] [] [] w.heap.size (by kernel_rfl) (by kernel_rfl) trivial HB ?_ ?_
  · exact ⟨fun s v h => does_val rfl rfl (x_move) ((h.same 5 rfl).trans e1085),
      fun s v h => does_val rfl rfl (x_assign) (h.dep 0 rfl), trivial⟩
  intro g1103 ts v1103 hts E1103
  simp only [fillL, Nat.reduceAdd, List.setIfInBounds_toArray, List.set_cons_zero, List.set_cons_succ] at hts
  subst hts
  have T1104 : Below w.heap.size w v1103 := T1087.trans E1103.below
  have l1105 : q1046 < v1086.heap.size := b1089.lt
  have b1106 : Bx v1103 q1046 24 #[.bool false, .slice none 0 0] := (E1103.far q1046 b1089.lt (by simp)).trans b1089
  have f1107 := f1090.mono E1103.mono
  have e1109 : g1103 1 = (.int .i64 1) := E1103.facts 1 (by decide)
  refine then_normal ?_
  refine wp_block ?_
  refine wp_loop_v 109 (fun k y wL => ∃ (i1 : Nat), y 2 = .pointer (some ⟨q1046, 0, none⟩) ∧ y 0 = (.string s) ∧ y 5 = (.int .i64 1) ∧ y 6 = (.int .i64 (i1 : Int)) ∧ Below w.heap.size w wL ∧ Bx wL q1046 24 #[.bool false, .slice none 0 0] ∧ Cz wL (.agg #[.bool false, .slice none 0 0]) 0 ∧ (1 ≤ i1 ∧ i1 ≤ m) ∧ k = m - i1) rfl rfl ⟨_, 1, p1047, rfl, e1085, e1109, T1104, b1106, f1107, ⟨by omega, by omega⟩, rfl⟩ ?_
  rintro k y1110 v1110 ⟨i1, p1111, p1112, p1113, p1114, T1115, b1116, f1117, ⟨j1, j2⟩, hk⟩
  have hlit : litv 109 y1110 = #[y1110 0, y1110 1, y1110 2, y1110 3, y1110 4, y1110 5, y1110 6, y1110 7, y1110 8, y1110 9, y1110 10, y1110 11, y1110 12, y1110 13, y1110 14, y1110 15, y1110 16, y1110 17, y1110 18, y1110 19, y1110 20, y1110 21, y1110 22, y1110 23, y1110 24, y1110 25, y1110 26, y1110 27, y1110 28, y1110 29, y1110 30, y1110 31, y1110 32, y1110 33, y1110 34, y1110 35, y1110 36, y1110 37, y1110 38, y1110 39, y1110 40, y1110 41, y1110 42, y1110 43, y1110 44, y1110 45, y1110 46, y1110 47, y1110 48, y1110 49, y1110 50, y1110 51, y1110 52, y1110 53, y1110 54, y1110 55, y1110 56, y1110 57, y1110 58, y1110 59, y1110 60, y1110 61, y1110 62, y1110 63, y1110 64, y1110 65, y1110 66, y1110 67, y1110 68, y1110 69, y1110 70, y1110 71, y1110 72, y1110 73, y1110 74, y1110 75, y1110 76, y1110 77, y1110 78, y1110 79, y1110 80, y1110 81, y1110 82, y1110 83, y1110 84, y1110 85, y1110 86, y1110 87, y1110 88, y1110 89, y1110 90, y1110 91, y1110 92, y1110 93, y1110 94, y1110 95, y1110 96, y1110 97, y1110 98, y1110 99, y1110 100, y1110 101, y1110 102, y1110 103, y1110 104, y1110 105, y1110 106, y1110 107, y1110 108] := rfl
  rw [hlit]
  clear hlit
  rcases scan_ways HG j1 j2 with ⟨hlt, b1, b2, b3, b4⟩ | ⟨hlt, b1, b2, b3⟩ | hlt
  · skip
    have him : (i1 : Int) < (s.size : Int) := by omega
    have e0 : decide ((i1 : Int) < (s.size : Int)) = true := decide_eq_true him
    refine wp_seq ?_
    refine wp_seq ?_
    have HB : w.heap.size ≤ v1110.heap.size := T1115.size
    refine wp_plan_seq [.val (.is (.int .i64 (i1 : Int))), .val (.is (.string s)), .val (.is (.int .i64 (s.size : Int))), .val (.is (.bool true))] [] [] w.heap.size (by kernel_rfl) (by kernel_rfl) trivial HB ?_ ?_
    · exact ⟨fun s v h => does_val rfl rfl (x_move) ((h.same 6 rfl).trans p1114),
      fun s v h => does_val rfl rfl (x_move) ((h.same 0 rfl).trans p1112),
      fun s v h => does_val rfl rfl (x_len_str (h.dep 1 rfl)) rfl,
      fun s v h => does_val rfl rfl (x_lss (h.dep 0 rfl) (h.dep 2 rfl)) (congrArg Value.bool e0), trivial⟩
    intro g1118 ts v1118 hts E1118
    simp only [fillL, Nat.reduceAdd, List.setIfInBounds_toArray, List.set_cons_zero, List.set_cons_succ] at hts
    subst hts
    have T1119 : Below w.heap.size w v1118 := T1115.trans E1118.below
    have l1120 : q1046 < v1110.heap.size := b1116.lt
    have b1121 : Bx v1118 q1046 24 #[.bool false, .slice none 0 0] := (E1118.far q1046 b1116.lt (by simp)).trans b1116
    have f1122 := f1117.mono E1118.mono
    have e1126 : g1118 3 = (.bool true) := E1118.facts 3 (by decide)
    refine then_normal ?_
    refine wp_cond_true e1126 ?_
    refine wp_skip ?_
    refine then_normal ?_
    refine wp_seq ?_
    refine wp_block ?_
    refine wp_seq ?_
    have HB : w.heap.size ≤ v1118.heap.size := T1119.size
    refine wp_plan_seq [.val (.is (.string s)), .val (.is (.int .i64 (i1 : Int))), .val (.is (.int .u8 (byteN s i1 : Int))), .val (.is (.bool false)), .val (.is (.bool false)), .val (.is (.string s)), .val (.is (.int .i64 (i1 : Int))), .val (.is (.int .u8 (byteN s i1 : Int))), .val (.is (.bool false)), .val (.is (.bool false)), .val (.is (.bool false)), .val (.is (.int .i64 (i1 : Int))), .val (.is (.int .i64 1)), .val (.is (.int .i64 (1 + 1))), .val (.is (.bool true)), .val (.is (.bool true)), .val (.is (.string s)), .val (.is (.int .i64 1)), .val (.is (.int .u8 (byteN s 1 : Int))), .val (.is (.bool false)), .val (.is (.bool false)), .val (.is (.bool false))] [] [] w.heap.size (by kernel_rfl) (by kernel_rfl) trivial HB ?_ ?_
    · exact ⟨fun s v h => does_val rfl rfl (x_move) ((h.same 0 rfl).trans p1112),
      fun s v h => does_val rfl rfl (x_move) ((h.same 6 rfl).trans p1114),
      fun s v h => does_val rfl rfl (x_index_str (h.dep 0 rfl) (k := i1) (h.dep 1 rfl) (by omega)) rfl,
      fun s v h => does_val rfl rfl (x_lss (h.dep 2 rfl) rfl) (congrArg Value.bool b1),
      fun s v h => does_val rfl rfl (x_move) (h.dep 3 rfl),
      fun s v h => does_val rfl (wanted_by (b := false) (want := false) rfl rfl (h.dep 4 rfl)) (x_move) ((h.same 0 rfl).trans p1112),
      fun s v h => does_val rfl (wanted_by (b := false) (want := false) rfl rfl (h.dep 4 rfl)) (x_move) ((h.same 6 rfl).trans p1114),
      fun s v h => does_val rfl (wanted_by (b := false) (want := false) rfl rfl (h.dep 4 rfl)) (x_index_str (h.dep 5 rfl) (k := i1) (h.dep 6 rfl) (by omega)) rfl,
      fun s v h => does_val rfl (wanted_by (b := false) (want := false) rfl rfl (h.dep 4 rfl)) (x_gtr (h.dep 7 rfl) rfl) (congrArg Value.bool b2),
      fun s v h => does_val rfl rfl (x_pick (h.dep 4 rfl)) (h.dep 8 rfl),
      fun s v h => does_val rfl rfl (x_move) (h.dep 9 rfl),
      fun s v h => does_val rfl (wanted_by (b := false) (want := false) rfl rfl (h.dep 10 rfl)) (x_move) ((h.same 6 rfl).trans p1114),
      fun s v h => does_val rfl (wanted_by (b := false) (want := false) rfl rfl (h.dep 10 rfl)) (x_move) ((h.same 5 rfl).trans p1113),
      fun s v h => does_val rfl (wanted_by (b := false) (want := false) rfl rfl (h.dep 10 rfl)) (x_add (h.dep 12 rfl) rfl (by rw [IntKind.wrap_i64]; omega)) rfl,
      fun s v h => does_val rfl (wanted_by (b := false) (want := false) rfl rfl (h.dep 10 rfl)) (x_eql_int (h.dep 11 rfl) (h.dep 13 rfl)) (congrArg Value.bool b3),
      fun s v h => does_val rfl (wanted_by (b := false) (want := false) rfl rfl (h.dep 10 rfl)) (x_move) (h.dep 14 rfl),
      fun s v h => does_val rfl (wanted_by (b := true) (want := true) rfl rfl (h.dep 15 rfl)) (x_move) ((h.same 0 rfl).trans p1112),
      fun s v h => does_val rfl (wanted_by (b := true) (want := true) rfl rfl (h.dep 15 rfl)) (x_move) ((h.same 5 rfl).trans p1113),
      fun s v h => does_val rfl (wanted_by (b := true) (want := true) rfl rfl (h.dep 15 rfl)) (x_index_str (h.dep 16 rfl) (k := 1) (h.dep 17 rfl) (by omega)) rfl,
      fun s v h => does_val rfl (wanted_by (b := true) (want := true) rfl rfl (h.dep 15 rfl)) (x_eql_u8 (h.dep 18 rfl) rfl) (congrArg Value.bool b4),
      fun s v h => does_val rfl (wanted_by (b := false) (want := false) rfl rfl (h.dep 10 rfl)) (x_pick (h.dep 15 rfl)) (h.dep 19 rfl),
      fun s v h => does_val rfl rfl (x_pick (h.dep 10 rfl)) (h.dep 20 rfl), trivial⟩
    intro g1127 ts v1127 hts E1127
    simp only [fillL, Nat.reduceAdd, List.setIfInBounds_toArray, List.set_cons_zero, List.set_cons_succ] at hts
    subst hts
    have T1128 : Below w.heap.size w v1127 := T1119.trans E1127.below
    have l1129 : q1046 < v1118.heap.size := b1121.lt
    have b1130 : Bx v1127 q1046 24 #[.bool false, .slice none 0 0] := (E1127.far q1046 b1121.lt (by simp)).trans b1121
    have f1131 := f1122.mono E1127.mono
    have e1153 : g1127 21 = (.bool false) := E1127.facts 21 (by decide)
    refine then_normal ?_
    refine wp_cond_false e1153 ?_
    refine wp_skip ?_
    refine block_normal ?_
    refine then_normal ?_
    have HB : w.heap.size ≤ v1127.heap.size := T1128.size
    refine wp_plan_seq [.val (.is (.int .i64 (i1 : Int))), .val (.is (.int .i64 ((i1 + 1 : Nat) : Int))), .val (.is (.int .i64 ((i1 + 1 : Nat) : Int)))] [] [] w.heap.size (by kernel_rfl) (by kernel_rfl) trivial HB ?_ ?_
    · exact ⟨fun s v h => does_val rfl rfl (x_move) ((h.soon 2 6 rfl rfl).trans p1114),
      fun s v h => does_val rfl rfl (x_add (h.dep 0 rfl) rfl (by rw [IntKind.wrap_i64]; omega)) (congrArg (Value.int .i64) (by omega)),
      fun s v h => does_val rfl rfl (x_assign) (h.dep 1 rfl), trivial⟩
    intro g1154 ts v1154 hts E1154
    simp only [fillL, Nat.reduceAdd, List.setIfInBounds_toArray, List.set_cons_zero, List.set_cons_succ] at hts
    subst hts
    have T1155 : Below w.heap.size w v1154 := T1128.trans E1154.below
    have l1156 : q1046 < v1127.heap.size := b1130.lt
    have b1157 : Bx v1154 q1046 24 #[.bool false, .slice none 0 0] := (E1154.far q1046 b1130.lt (by simp)).trans b1130
    have f1158 := f1131.mono E1154.mono
    have e1161 : g1154 2 = (.int .i64 ((i1 + 1 : Nat) : Int)) := E1154.facts 2 (by decide)
    refine then_normal ?_
    exact ⟨rfl, rfl, _, (by omega), (i1 + 1), p1111, p1112, p1113, e1161, T1155, b1157, f1158, ⟨by omega, by omega⟩, rfl⟩
  · skip
    have him : (i1 : Int) < (s.size : Int) := by omega
    have e0 : decide ((i1 : Int) < (s.size : Int)) = true := decide_eq_true him
    refine wp_seq ?_
    refine wp_seq ?_
    have HB : w.heap.size ≤ v1110.heap.size := T1115.size
    refine wp_plan_seq [.val (.is (.int .i64 (i1 : Int))), .val (.is (.string s)), .val (.is (.int .i64 (s.size : Int))), .val (.is (.bool true))] [] [] w.heap.size (by kernel_rfl) (by kernel_rfl) trivial HB ?_ ?_
    · exact ⟨fun s v h => does_val rfl rfl (x_move) ((h.same 6 rfl).trans p1114),
      fun s v h => does_val rfl rfl (x_move) ((h.same 0 rfl).trans p1112),
      fun s v h => does_val rfl rfl (x_len_str (h.dep 1 rfl)) rfl,
      fun s v h => does_val rfl rfl (x_lss (h.dep 0 rfl) (h.dep 2 rfl)) (congrArg Value.bool e0), trivial⟩
    intro g1162 ts v1162 hts E1162
    simp only [fillL, Nat.reduceAdd, List.setIfInBounds_toArray, List.set_cons_zero, List.set_cons_succ] at hts
    subst hts
    have T1163 : Below w.heap.size w v1162 := T1115.trans E1162.below
    have l1164 : q1046 < v1110.heap.size := b1116.lt
    have b1165 : Bx v1162 q1046 24 #[.bool false, .slice none 0 0] := (E1162.far q1046 b1116.lt (by simp)).trans b1116
    have f1166 := f1117.mono E1162.mono
    have e1170 : g1162 3 = (.bool true) := E1162.facts 3 (by decide)
    refine then_normal ?_
    refine wp_cond_true e1170 ?_
    refine wp_skip ?_
    refine then_normal ?_
    refine wp_seq ?_
    refine wp_block ?_
    refine wp_seq ?_
    have HB : w.heap.size ≤ v1162.heap.size := T1163.size
    refine wp_plan_seq [.val (.is (.string s)), .val (.is (.int .i64 (i1 : Int))), .val (.is (.int .u8 (byteN s i1 : Int))), .val (.is (.bool false)), .val (.is (.bool false)), .val (.is (.string s)), .val (.is (.int .i64 (i1 : Int))), .val (.is (.int .u8 (byteN s i1 : Int))), .val (.is (.bool false)), .val (.is (.bool false)), .val (.is (.bool false)), .val (.is (.int .i64 (i1 : Int))), .val (.is (.int .i64 1)), .val (.is (.int .i64 (1 + 1))), .val (.is (.bool false)), .val (.is (.bool false)), .val (.is undef), .val (.is undef), .val (.is undef), .val (.is undef), .val (.is (.bool false)), .val (.is (.bool false))] [] [] w.heap.size (by kernel_rfl) (by kernel_rfl) trivial HB ?_ ?_
    · exact ⟨fun s v h => does_val rfl rfl (x_move) ((h.same 0 rfl).trans p1112),
      fun s v h => does_val rfl rfl (x_move) ((h.same 6 rfl).trans p1114),
      fun s v h => does_val rfl rfl (x_index_str (h.dep 0 rfl) (k := i1) (h.dep 1 rfl) (by omega)) rfl,
      fun s v h => does_val rfl rfl (x_lss (h.dep 2 rfl) rfl) (congrArg Value.bool b1),
      fun s v h => does_val rfl rfl (x_move) (h.dep 3 rfl),
      fun s v h => does_val rfl (wanted_by (b := false) (want := false) rfl rfl (h.dep 4 rfl)) (x_move) ((h.same 0 rfl).trans p1112),
      fun s v h => does_val rfl (wanted_by (b := false) (want := false) rfl rfl (h.dep 4 rfl)) (x_move) ((h.same 6 rfl).trans p1114),
      fun s v h => does_val rfl (wanted_by (b := false) (want := false) rfl rfl (h.dep 4 rfl)) (x_index_str (h.dep 5 rfl) (k := i1) (h.dep 6 rfl) (by omega)) rfl,
      fun s v h => does_val rfl (wanted_by (b := false) (want := false) rfl rfl (h.dep 4 rfl)) (x_gtr (h.dep 7 rfl) rfl) (congrArg Value.bool b2),
      fun s v h => does_val rfl rfl (x_pick (h.dep 4 rfl)) (h.dep 8 rfl),
      fun s v h => does_val rfl rfl (x_move) (h.dep 9 rfl),
      fun s v h => does_val rfl (wanted_by (b := false) (want := false) rfl rfl (h.dep 10 rfl)) (x_move) ((h.same 6 rfl).trans p1114),
      fun s v h => does_val rfl (wanted_by (b := false) (want := false) rfl rfl (h.dep 10 rfl)) (x_move) ((h.same 5 rfl).trans p1113),
      fun s v h => does_val rfl (wanted_by (b := false) (want := false) rfl rfl (h.dep 10 rfl)) (x_add (h.dep 12 rfl) rfl (by rw [IntKind.wrap_i64]; omega)) rfl,
      fun s v h => does_val rfl (wanted_by (b := false) (want := false) rfl rfl (h.dep 10 rfl)) (x_eql_int (h.dep 11 rfl) (h.dep 13 rfl)) (congrArg Value.bool b3),
      fun s v h => does_val rfl (wanted_by (b := false) (want := false) rfl rfl (h.dep 10 rfl)) (x_move) (h.dep 14 rfl),
      fun s v h => does_skip rfl (wanted_by (b := false) (want := true) rfl rfl (h.dep 15 rfl)) rfl,
      fun s v h => does_skip rfl (wanted_by (b := false) (want := true) rfl rfl (h.dep 15 rfl)) rfl,
      fun s v h => does_skip rfl (wanted_by (b := false) (want := true) rfl rfl (h.dep 15 rfl)) rfl,
      fun s v h => does_skip rfl (wanted_by (b := false) (want := true) rfl rfl (h.dep 15 rfl)) rfl,
      fun s v h => does_val rfl (wanted_by (b := false) (want := false) rfl rfl (h.dep 10 rfl)) (x_pick (h.dep 15 rfl)) rfl,
      fun s v h => does_val rfl rfl (x_pick (h.dep 10 rfl)) (h.dep 20 rfl), trivial⟩
    intro g1171 ts v1171 hts E1171
    simp only [fillL, Nat.reduceAdd, List.setIfInBounds_toArray, List.set_cons_zero, List.set_cons_succ] at hts
    subst hts
    have T1172 : Below w.heap.size w v1171 := T1163.trans E1171.below
    have l1173 : q1046 < v1162.heap.size := b1165.lt
    have b1174 : Bx v1171 q1046 24 #[.bool false, .slice none 0 0] := (E1171.far q1046 b1165.lt (by simp)).trans b1165
    have f1175 := f1166.mono E1171.mono
    have e1197 : g1171 21 = (.bool false) := E1171.facts 21 (by decide)
    refine then_normal ?_
    refine wp_cond_false e1197 ?_
    refine wp_skip ?_
    refine block_normal ?_
    refine then_normal ?_
    have HB : w.heap.size ≤ v1171.heap.size := T1172.size
    refine wp_plan_seq [.val (.is (.int .i64 (i1 : Int))), .val (.is (.int .i64 ((i1 + 1 : Nat) : Int))), .val (.is (.int .i64 ((i1 + 1 : Nat) : Int)))] [] [] w.heap.size (by kernel_rfl) (by kernel_rfl) trivial HB ?_ ?_
    · exact ⟨fun s v h => does_val rfl rfl (x_move) ((h.soon 2 6 rfl rfl).trans p1114),
      fun s v h => does_val rfl rfl (x_add (h.dep 0 rfl) rfl (by rw [IntKind.wrap_i64]; omega)) (congrArg (Value.int .i64) (by omega)),
      fun s v h => does_val rfl rfl (x_assign) (h.dep 1 rfl), trivial⟩
    intro g1198 ts v1198 hts E1198
    simp only [fillL, Nat.reduceAdd, List.setIfInBounds_toArray, List.set_cons_zero, List.set_cons_succ] at hts
    subst hts
    have T1199 : Below w.heap.size w v1198 := T1172.trans E1198.below
    have l1200 : q1046 < v1171.heap.size := b1174.lt
    have b1201 : Bx v1198 q1046 24 #[.bool false, .slice none 0 0] := (E1198.far q1046 b1174.lt (by simp)).trans b1174
    have f1202 := f1175.mono E1198.mono
    have e1205 : g1198 2 = (.int .i64 ((i1 + 1 : Nat) : Int)) := E1198.facts 2 (by decide)
    refine then_normal ?_
    exact ⟨rfl, rfl, _, (by omega), (i1 + 1), p1111, p1112, p1113, e1205, T1199, b1201, f1202, ⟨by omega, by omega⟩, rfl⟩
  · skip
    have hmm : m = s.size := hms
    have e0 : decide ((i1 : Int) < (s.size : Int)) = false := decide_eq_false (by omega)
    refine wp_seq ?_
    refine wp_seq ?_
    have HB : w.heap.size ≤ v1110.heap.size := T1115.size
    refine wp_plan_seq [.val (.is (.int .i64 (i1 : Int))), .val (.is (.string s)), .val (.is (.int .i64 (s.size : Int))), .val (.is (.bool false))] [] [] w.heap.size (by kernel_rfl) (by kernel_rfl) trivial HB ?_ ?_
    · exact ⟨fun s v h => does_val rfl rfl (x_move) ((h.same 6 rfl).trans p1114),
      fun s v h => does_val rfl rfl (x_move) ((h.same 0 rfl).trans p1112),
      fun s v h => does_val rfl rfl (x_len_str (h.dep 1 rfl)) rfl,
      fun s v h => does_val rfl rfl (x_lss (h.dep 0 rfl) (h.dep 2 rfl)) (congrArg Value.bool e0), trivial⟩
    intro g1206 ts v1206 hts E1206
    simp only [fillL, Nat.reduceAdd, List.setIfInBounds_toArray, List.set_cons_zero, List.set_cons_succ] at hts
    subst hts
    have T1207 : Below w.heap.size w v1206 := T1115.trans E1206.below
    have l1208 : q1046 < v1110.heap.size := b1116.lt
    have b1209 : Bx v1206 q1046 24 #[.bool false, .slice none 0 0] := (E1206.far q1046 b1116.lt (by simp)).trans b1116
    have f1210 := f1117.mono E1206.mono
    have e1214 : g1206 3 = (.bool false) := E1206.facts 3 (by decide)
    refine then_normal ?_
    refine wp_cond_false e1214 ?_
    refine wp_exit ?_
    refine exit_then ?_
    refine exit_then ?_
    refine exit_block ?_
    refine then_normal ?_
    refine wp_seq ?_
    refine wp_seq ?_
    have HB : w.heap.size ≤ v1206.heap.size := T1207.size
    refine wp_plan_seq [.val (.is (.int .i64 1)), .val (.is (.string s)), .val (.is (.int .i64 (s.size : Int))), .val (.is (.bool false))] [] [] w.heap.size (by kernel_rfl) (by kernel_rfl) trivial HB ?_ ?_
    · exact ⟨fun s v h => does_val rfl rfl (x_move) ((h.same 5 rfl).trans p1113),
      fun s v h => does_val rfl rfl (x_move) ((h.same 0 rfl).trans p1112),
      fun s v h => does_val rfl rfl (x_len_str (h.dep 1 rfl)) rfl,
      fun s v h => does_val rfl rfl (x_eql_int (h.dep 0 rfl) (h.dep 2 rfl)) (congrArg Value.bool dn), trivial⟩
    intro g1215 ts v1215 hts E1215
    simp only [fillL, Nat.reduceAdd, List.setIfInBounds_toArray, List.set_cons_zero, List.set_cons_succ] at hts
    subst hts
    have T1216 : Below w.heap.size w v1215 := T1207.trans E1215.below
    have l1217 : q1046 < v1206.heap.size := b1209.lt
    have b1218 : Bx v1215 q1046 24 #[.bool false, .slice none 0 0] := (E1215.far q1046 b1209.lt (by simp)).trans b1209
    have f1219 := f1210.mono E1215.mono
    have e1223 : g1215 3 = (.bool false) := E1215.facts 3 (by decide)
    refine then_normal ?_
    refine wp_cond_false e1223 ?_
    refine wp_skip ?_
    refine then_normal ?_
    refine wp_seq ?_
    have HB : w.heap.size ≤ v1215.heap.size := T1216.size
    refine wp_plan_seq [.val (.is (.slice none 0 0))] [] [] w.heap.size (by kernel_rfl) (by kernel_rfl) trivial HB ?_ ?_
    · exact ⟨fun s v h => does_val rfl rfl (x_assign) rfl, trivial⟩
    intro g1224 ts v1224 hts E1224
    simp only [fillL, List.setIfInBounds_toArray, List.set_cons_zero, List.set_cons_succ] at hts
    subst hts
    have T1225 : Below w.heap.size w v1224 := T1216.trans E1224.below
    have l1226 : q1046 < v1215.heap.size := b1218.lt
    have b1227 : Bx v1224 q1046 24 #[.bool false, .slice none 0 0] := (E1224.far q1046 b1218.lt (by simp)).trans b1218
    have f1228 := f1219.mono E1224.mono
    have e1229 : g1224 0 = (.slice none 0 0) := E1224.facts 0 (by decide)
    refine then_normal ?_
    refine wp_seq ?_
    refine wp_seq ?_
    have HB : w.heap.size ≤ v1224.heap.size := T1225.size
    refine wp_plan_seq [.val (.is (.int .i64 1)), .val (.is (.int .i64 1))] [] [] w.heap.size (by kernel_rfl) (by kernel_rfl) trivial HB ?_ ?_
    · exact ⟨fun s v h => does_val rfl rfl (x_move) ((h.same 5 rfl).trans p1113),
      fun s v h => does_val rfl rfl (x_assign) (h.dep 0 rfl), trivial⟩
    intro g1230 ts v1230 hts E1230
    simp only [fillL, Nat.reduceAdd, List.setIfInBounds_toArray, List.set_cons_zero, List.set_cons_succ] at hts
    subst hts
    have T1231 : Below w.heap.size w v1230 := T1225.trans E1230.below
    have l1232 : q1046 < v1224.heap.size := b1227.lt
    have b1233 : Bx v1230 q1046 24 #[.bool false, .slice none 0 0] := (E1230.far q1046 b1227.lt (by simp)).trans b1227
    have f1234 := f1228.mono E1230.mono
    have e1236 : g1230 1 = (.int .i64 1) := E1230.facts 1 (by decide)
    refine then_normal ?_
    refine wp_block ?_
    refine wp_loop_v 109 (fun k y wL => ∃ (i1 : Nat), y 2 = .pointer (some ⟨q1046, 0, none⟩) ∧ y 0 = (.string s) ∧ y 5 = (.int .i64 1) ∧ y 8 = (.int .i64 (i1 : Int)) ∧ Below w.heap.size w wL ∧ Bx wL q1046 24 #[.bool false, .slice none 0 0] ∧ Cz wL (.agg #[.bool false, .slice none 0 0]) 0 ∧ Nz 70000 wL (y 7) (dvFrom s 1 (i1 - 1)) ∧ (1 ≤ i1 ∧ i1 ≤ s.size) ∧ k = s.size - i1) rfl rfl ⟨_, 1, p1111, p1112, p1113, e1236, T1231, b1233, f1234, ((nz_to (nz_nil _ 70000) (show 0 = dvFrom s 1 (1 - 1) by simp [dvFrom])).at e1229), ⟨by omega, by omega⟩, rfl⟩ ?_
    rintro k y1237 v1237 ⟨i1, p1238, p1239, p1240, p1241, T1242, b1243, f1244, f1245, ⟨j1a, j2a⟩, hk2⟩
    have hlit : litv 109 y1237 = #[y1237 0, y1237 1, y1237 2, y1237 3, y1237 4, y1237 5, y1237 6, y1237 7, y1237 8, y1237 9, y1237 10, y1237 11, y1237 12, y1237 13, y1237 14, y1237 15, y1237 16, y1237 17, y1237 18, y1237 19, y1237 20, y1237 21, y1237 22, y1237 23, y1237 24, y1237 25, y1237 26, y1237 27, y1237 28, y1237 29, y1237 30, y1237 31, y1237 32, y1237 33, y1237 34, y1237 35, y1237 36, y1237 37, y1237 38, y1237 39, y1237 40, y1237 41, y1237 42, y1237 43, y1237 44, y1237 45, y1237 46, y1237 47, y1237 48, y1237 49, y1237 50, y1237 51, y1237 52, y1237 53, y1237 54, y1237 55, y1237 56, y1237 57, y1237 58, y1237 59, y1237 60, y1237 61, y1237 62, y1237 63, y1237 64, y1237 65, y1237 66, y1237 67, y1237 68, y1237 69, y1237 70, y1237 71, y1237 72, y1237 73, y1237 74, y1237 75, y1237 76, y1237 77, y1237 78, y1237 79, y1237 80, y1237 81, y1237 82, y1237 83, y1237 84, y1237 85, y1237 86, y1237 87, y1237 88, y1237 89, y1237 90, y1237 91, y1237 92, y1237 93, y1237 94, y1237 95, y1237 96, y1237 97, y1237 98, y1237 99, y1237 100, y1237 101, y1237 102, y1237 103, y1237 104, y1237 105, y1237 106, y1237 107, y1237 108] := rfl
    rw [hlit]
    clear hlit
    by_cases hgo : i1 < s.size
    · skip
      have e0 : decide ((i1 : Int) < (s.size : Int)) = true := decide_eq_true (by omega)
      obtain ⟨n9, hn9⟩ : ∃ n9 : Nat, min 9 ((s.size : Int) - (i1 : Int)) = (n9 : Int) := ⟨(min 9 ((s.size : Int) - (i1 : Int))).toNat, by omega⟩
      have hn9b : 1 ≤ n9 ∧ n9 ≤ 9 ∧ i1 + n9 ≤ s.size := by omega
      refine wp_seq ?_
      refine wp_seq ?_
      have HB : w.heap.size ≤ v1237.heap.size := T1242.size
      refine wp_plan_seq [.val (.is (.int .i64 (i1 : Int))), .val (.is (.string s)), .val (.is (.int .i64 (s.size : Int))), .val (.is (.bool true))] [] [] w.heap.size (by kernel_rfl) (by kernel_rfl) trivial HB ?_ ?_
      · exact ⟨fun s v h => does_val rfl rfl (x_move) ((h.same 8 rfl).trans p1241),
      fun s v h => does_val rfl rfl (x_move) ((h.same 0 rfl).trans p1239),
      fun s v h => does_val rfl rfl (x_len_str (h.dep 1 rfl)) rfl,
      fun s v h => does_val rfl rfl (x_lss (h.dep 0 rfl) (h.dep 2 rfl)) (congrArg Value.bool e0), trivial⟩
      intro g1246 ts v1246 hts E1246
      simp only [fillL, Nat.reduceAdd, List.setIfInBounds_toArray, List.set_cons_zero, List.set_cons_succ] at hts
      subst hts
      have T1247 : Below w.heap.size w v1246 := T1242.trans E1246.below
      have l1248 : q1046 < v1237.heap.size := b1243.lt
      have b1249 : Bx v1246 q1046 24 #[.bool false, .slice none 0 0] := (E1246.far q1046 b1243.lt (by simp)).trans b1243
      have f1250 := f1244.mono E1246.mono
      have f1251 := f1245.mono E1246.mono
      have e1255 : g1246 3 = (.bool true) := E1246.facts 3 (by decide)
      refine then_normal ?_
      refine wp_cond_true e1255 ?_
      refine wp_skip ?_
      refine then_normal ?_
      refine wp_block ?_
      refine wp_seq ?_
      have HB : w.heap.size ≤ v1246.heap.size := T1247.size
      refine wp_plan_seq [.val (.is (.string s)), .val (.is (.int .i64 (s.size : Int))), .val (.is (.int .i64 (i1 : Int))), .val (.is (.int .i64 ((s.size : Int) - (i1 : Int)))), .val (.is (.int .i64 (n9 : Int))), .val (.is (.int .i64 (n9 : Int)))] [] [] w.heap.size (by kernel_rfl) (by kernel_rfl) trivial HB ?_ ?_
      · exact ⟨fun s v h => does_val rfl rfl (x_move) ((h.same 0 rfl).trans p1239),
      fun s v h => does_val rfl rfl (x_len_str (h.dep 0 rfl)) rfl,
      fun s v h => does_val rfl rfl (x_move) ((h.same 8 rfl).trans p1241),
      fun s v h => does_val rfl rfl (x_sub (h.dep 1 rfl) (h.dep 2 rfl) (by rw [IntKind.wrap_i64]; omega)) rfl,
      fun s v h => does_val rfl rfl (x_min9 (h.dep 3 rfl)) (congrArg (Value.int .i64) hn9),
      fun s v h => does_val rfl rfl (x_assign) (h.dep 4 rfl), trivial⟩
      intro g1256 ts v1256 hts E1256
      simp only [fillL, Nat.reduceAdd, List.setIfInBounds_toArray, List.set_cons_zero, List.set_cons_succ] at hts
      subst hts
      have T1257 : Below w.heap.size w v1256 := T1247.trans E1256.below
      have l1258 : q1046 < v1246.heap.size := b1249.lt
      have b1259 : Bx v1256 q1046 24 #[.bool false, .slice none 0 0] := (E1256.far q1046 b1249.lt (by simp)).trans b1249
      have f1260 := f1250.mono E1256.mono
      have f1261 := f1251.mono E1256.mono
      have e1267 : g1256 5 = (.int .i64 (n9 : Int)) := E1256.facts 5 (by decide)
      refine then_normal ?_
      refine wp_seq ?_
      have HB : w.heap.size ≤ v1256.heap.size := T1257.size
      refine wp_plan_seq [.val (.is (.int .u32 0))] [] [] w.heap.size (by kernel_rfl) (by kernel_rfl) trivial HB ?_ ?_
      · exact ⟨fun s v h => does_val rfl rfl (x_assign) rfl, trivial⟩
      intro g1268 ts v1268 hts E1268
      simp only [fillL, List.setIfInBounds_toArray, List.set_cons_zero, List.set_cons_succ] at hts
      subst hts
      have T1269 : Below w.heap.size w v1268 := T1257.trans E1268.below
      have l1270 : q1046 < v1256.heap.size := b1259.lt
      have b1271 : Bx v1268 q1046 24 #[.bool false, .slice none 0 0] := (E1268.far q1046 b1259.lt (by simp)).trans b1259
      have f1272 := f1260.mono E1268.mono
      have f1273 := f1261.mono E1268.mono
      have e1274 : g1268 0 = (.int .u32 0) := E1268.facts 0 (by decide)
      refine then_normal ?_
      refine wp_seq ?_
      refine wp_seq ?_
      have HB : w.heap.size ≤ v1268.heap.size := T1269.size
      refine wp_plan_seq [.val (.is (.int .i64 (n9 : Int))), .val (.is (.int .i64 0))] [] [] w.heap.size (by kernel_rfl) (by kernel_rfl) trivial HB ?_ ?_
      · exact ⟨fun s v h => does_val rfl rfl (x_move) ((h.same 9 rfl).trans e1267),
      fun s v h => does_val rfl rfl (x_move) rfl, trivial⟩
      intro g1275 ts v1275 hts E1275
      simp only [fillL, Nat.reduceAdd, List.setIfInBounds_toArray, List.set_cons_zero, List.set_cons_succ] at hts
      subst hts
      have T1276 : Below w.heap.size w v1275 := T1269.trans E1275.below
      have l1277 : q1046 < v1268.heap.size := b1271.lt
      have b1278 : Bx v1275 q1046 24 #[.bool false, .slice none 0 0] := (E1275.far q1046 b1271.lt (by simp)).trans b1271
      have f1279 := f1272.mono E1275.mono
      have f1280 := f1273.mono E1275.mono
      have e1281 : g1275 0 = (.int .i64 (n9 : Int)) := E1275.facts 0 (by decide)
      have e1282 : g1275 1 = (.int .i64 0) := E1275.facts 1 (by decide)
      refine then_normal ?_
      refine wp_block ?_
      refine wp_loop_v 109 (fun k y wL => ∃ (j1 : Nat) (v1 : Int), y 2 = .pointer (some ⟨q1046, 0, none⟩) ∧ y 0 = (.string s) ∧ y 5 = (.int .i64 1) ∧ y 9 = (.int .i64 (n9 : Int)) ∧ y 83 = (.int .i64 (n9 : Int)) ∧ y 8 = (.int .i64 ((i1 + j1 : Nat) : Int)) ∧ y 10 = (.int .u32 v1) ∧ y 84 = (.int .i64 (j1 : Int)) ∧ Below w.heap.size w wL ∧ Bx wL q1046 24 #[.bool false, .slice none 0 0] ∧ Cz wL (.agg #[.bool false, .slice none 0 0]) 0 ∧ Nz 70000 wL (y 7) (dvFrom s 1 (i1 - 1)) ∧ (j1 ≤ n9 ∧ v1 = (dvFrom s i1 j1 : Int)) ∧ k = n9 - j1) rfl rfl ⟨_, 0, 0, p1238, p1239, p1240, e1267, e1281, p1241, e1274, e1282, T1276, b1278, f1279, f1280, ⟨by omega, rfl⟩, rfl⟩ ?_
      rintro k y1283 v1283 ⟨j1, v1, p1284, p1285, p1286, p1287, p1288, p1289, p1290, p1291, T1292, b1293, f1294, f1295, ⟨q1, q2⟩, hk3⟩
      have hlit : litv 109 y1283 = #[y1283 0, y1283 1, y1283 2, y1283 3, y1283 4, y1283 5, y1283 6, y1283 7, y1283 8, y1283 9, y1283 10, y1283 11, y1283 12, y1283 13, y1283 14, y1283 15, y1283 16, y1283 17, y1283 18, y1283 19, y1283 20, y1283 21, y1283 22, y1283 23, y1283 24, y1283 25, y1283 26, y1283 27, y1283 28, y1283 29, y1283 30, y1283 31, y1283 32, y1283 33, y1283 34, y1283 35, y1283 36, y1283 37, y1283 38, y1283 39, y1283 40, y1283 41, y1283 42, y1283 43, y1283 44, y1283 45, y1283 46, y1283 47, y1283 48, y1283 49, y1283 50, y1283 51, y1283 52, y1283 53, y1283 54, y1283 55, y1283 56, y1283 57, y1283 58, y1283 59, y1283 60, y1283 61, y1283 62, y1283 63, y1283 64, y1283 65, y1283 66, y1283 67, y1283 68, y1283 69, y1283 70, y1283 71, y1283 72, y1283 73, y1283 74, y1283 75, y1283 76, y1283 77, y1283 78, y1283 79, y1283 80, y1283 81, y1283 82, y1283 83, y1283 84, y1283 85, y1283 86, y1283 87, y1283 88, y1283 89, y1283 90, y1283 91, y1283 92, y1283 93, y1283 94, y1283 95, y1283 96, y1283 97, y1283 98, y1283 99, y1283 100, y1283 101, y1283 102, y1283 103, y1283 104, y1283 105, y1283 106, y1283 107, y1283 108] := rfl
      rw [hlit]
      clear hlit
      by_cases hjn : j1 < n9
      · skip
        have e0 : decide ((j1 : Int) < (n9 : Int)) = true := decide_eq_true (by omega)
        have hd := HD.out (i1 + j1) (by omega) (by omega)
        have hidx : i1 + j1 < s.size := by omega
        have hv := dig_small HD (i := i1) (j := j1) (by omega) (by omega) (by omega)
        refine wp_seq ?_
        have HB : w.heap.size ≤ v1283.heap.size := T1292.size
        refine wp_plan_seq [.val (.is (.bool true))] [] [] w.heap.size (by kernel_rfl) (by kernel_rfl) trivial HB ?_ ?_
        · exact ⟨fun s v h => does_val rfl rfl (x_lss ((h.same 84 rfl).trans p1291) ((h.same 83 rfl).trans p1288)) (congrArg Value.bool e0), trivial⟩
        intro g1296 ts v1296 hts E1296
        simp only [fillL, List.setIfInBounds_toArray, List.set_cons_zero, List.set_cons_succ] at hts
        subst hts
        have T1297 : Below w.heap.size w v1296 := T1292.trans E1296.below
        have l1298 : q1046 < v1283.heap.size := b1293.lt
        have b1299 : Bx v1296 q1046 24 #[.bool false, .slice none 0 0] := (E1296.far q1046 b1293.lt (by simp)).trans b1293
        have f1300 := f1294.mono E1296.mono
        have f1301 := f1295.mono E1296.mono
        have e1302 : g1296 0 = (.bool true) := E1296.facts 0 (by decide)
        refine then_normal ?_
        refine wp_seq ?_
        refine wp_cond_true e1302 ?_
        refine wp_skip ?_
        refine then_normal ?_
        refine wp_seq ?_
        refine wp_block ?_
        refine wp_seq ?_
        have HB : w.heap.size ≤ v1296.heap.size := T1297.size
        refine wp_plan_seq [.val (.is (.int .u32 v1)), .val (.is (.int .u32 (10 * v1))), .val (.is (.string s)), .val (.is (.int .i64 ((i1 + j1 : Nat) : Int))), .val (.is (.int .u8 (byteN s (i1 + j1) : Int))), .val (.is (.int .u8 ((byteN s (i1 + j1) : Int) - 48))), .val (.is (.int .u32 ((byteN s (i1 + j1) : Int) - 48))), .val (.is (.int .u32 ((10 * v1) + ((byteN s (i1 + j1) : Int) - 48)))), .val (.is (.int .u32 ((10 * v1) + ((byteN s (i1 + j1) : Int) - 48))))] [] [] w.heap.size (by kernel_rfl) (by kernel_rfl) trivial HB ?_ ?_
        · exact ⟨fun s v h => does_val rfl rfl (x_move) ((h.soon 8 10 rfl rfl).trans p1290),
      fun s v h => does_val rfl rfl (x_mul_u32 rfl (h.dep 0 rfl) (IntWalk.u32_in _ (by omega))) rfl,
      fun s v h => does_val rfl rfl (x_move) ((h.same 0 rfl).trans p1285),
      fun s v h => does_val rfl rfl (x_move) ((h.same 8 rfl).trans p1289),
      fun s v h => does_val rfl rfl (x_index_str (h.dep 2 rfl) (k := (i1 + j1)) (h.dep 3 rfl) (by omega)) rfl,
      fun s v h => does_val rfl rfl (x_sub_u8 (h.dep 4 rfl) rfl (IntWalk.u8_in _ (by omega))) rfl,
      fun s v h => does_val rfl rfl (x_conv_8_32 (h.dep 5 rfl) (IntWalk.u32_in _ (by omega))) rfl,
      fun s v h => does_val rfl rfl (x_add_u32 (h.dep 1 rfl) (h.dep 6 rfl) (IntWalk.u32_in _ (by omega))) rfl,
      fun s v h => does_val rfl rfl (x_assign) (h.dep 7 rfl), trivial⟩
        intro g1303 ts v1303 hts E1303
        simp only [fillL, Nat.reduceAdd, List.setIfInBounds_toArray, List.set_cons_zero, List.set_cons_succ] at hts
        subst hts
        have T1304 : Below w.heap.size w v1303 := T1297.trans E1303.below
        have l1305 : q1046 < v1296.heap.size := b1299.lt
        have b1306 : Bx v1303 q1046 24 #[.bool false, .slice none 0 0] := (E1303.far q1046 b1299.lt (by simp)).trans b1299
        have f1307 := f1300.mono E1303.mono
        have f1308 := f1301.mono E1303.mono
        have e1317 : g1303 8 = (.int .u32 ((10 * v1) + ((byteN s (i1 + j1) : Int) - 48))) := E1303.facts 8 (by decide)
        refine then_normal ?_
        have HB : w.heap.size ≤ v1303.heap.size := T1304.size
        refine wp_plan_seq [.val (.is (.int .i64 ((i1 + j1 : Nat) : Int))), .val (.is (.int .i64 ((i1 + (j1 + 1) : Nat) : Int))), .val (.is (.int .i64 ((i1 + (j1 + 1) : Nat) : Int)))] [] [] w.heap.size (by kernel_rfl) (by kernel_rfl) trivial HB ?_ ?_
        · exact ⟨fun s v h => does_val rfl rfl (x_move) ((h.soon 2 8 rfl rfl).trans p1289),
      fun s v h => does_val rfl rfl (x_add (h.dep 0 rfl) rfl (by rw [IntKind.wrap_i64]; omega)) (congrArg (Value.int .i64) (by omega)),
      fun s v h => does_val rfl rfl (x_assign) (h.dep 1 rfl), trivial⟩
        intro g1318 ts v1318 hts E1318
        simp only [fillL, Nat.reduceAdd, List.setIfInBounds_toArray, List.set_cons_zero, List.set_cons_succ] at hts
        subst hts
        have T1319 : Below w.heap.size w v1318 := T1304.trans E1318.below
        have l1320 : q1046 < v1303.heap.size := b1306.lt
        have b1321 : Bx v1318 q1046 24 #[.bool false, .slice none 0 0] := (E1318.far q1046 b1306.lt (by simp)).trans b1306
        have f1322 := f1307.mono E1318.mono
        have f1323 := f1308.mono E1318.mono
        have e1326 : g1318 2 = (.int .i64 ((i1 + (j1 + 1) : Nat) : Int)) := E1318.facts 2 (by decide)
        refine block_normal ?_
        refine then_normal ?_
        have HB : w.heap.size ≤ v1318.heap.size := T1319.size
        refine wp_plan_seq [.val (.is (.int .i64 ((j1 + 1 : Nat) : Int))), .val (.is (.int .i64 ((j1 + 1 : Nat) : Int)))] [] [] w.heap.size (by kernel_rfl) (by kernel_rfl) trivial HB ?_ ?_
        · exact ⟨fun s v h => does_val rfl rfl (x_add ((h.soon 1 84 rfl rfl).trans p1291) rfl (by rw [IntKind.wrap_i64]; omega)) (congrArg (Value.int .i64) (by omega)),
      fun s v h => does_val rfl rfl (x_move) (h.dep 0 rfl), trivial⟩
        intro g1327 ts v1327 hts E1327
        simp only [fillL, Nat.reduceAdd, List.setIfInBounds_toArray, List.set_cons_zero, List.set_cons_succ] at hts
        subst hts
        have T1328 : Below w.heap.size w v1327 := T1319.trans E1327.below
        have l1329 : q1046 < v1318.heap.size := b1321.lt
        have b1330 : Bx v1327 q1046 24 #[.bool false, .slice none 0 0] := (E1327.far q1046 b1321.lt (by simp)).trans b1321
        have f1331 := f1322.mono E1327.mono
        have f1332 := f1323.mono E1327.mono
        have e1334 : g1327 1 = (.int .i64 ((j1 + 1 : Nat) : Int)) := E1327.facts 1 (by decide)
        refine then_normal ?_
        exact ⟨rfl, rfl, _, (by omega), (j1 + 1), ((10 * v1) + ((byteN s (i1 + j1) : Int) - 48)), p1284, p1285, p1286, p1287, p1288, e1326, e1317, e1334, T1328, b1330, f1331, f1332, ⟨by omega, by rw [q2, dvFrom]; omega⟩, rfl⟩
      · skip
        have e0 : decide ((j1 : Int) < (n9 : Int)) = false := decide_eq_false (by omega)
        have e3 : j1 = n9 := by omega
        have hp9 : 10 ^ n9 < 4294967296 := Nat.lt_of_le_of_lt (Nat.pow_le_pow_right (by omega) (show n9 ≤ 9 by omega)) (by decide)
        have hp9a : 0 ≤ ((10 ^ n9 : Nat) : Int) := Int.natCast_nonneg _
        have hp9b : ((10 ^ n9 : Nat) : Int) < 4294967296 := Int.ofNat_lt.2 hp9
        have hv9 := dig_small9 HD (i := i1) (j := n9) (by omega) (by omega) (by omega)
        rw [← e3, ← q2] at hv9
        have hvt : v1.toNat = dvFrom s i1 n9 := by rw [← e3]; omega
        have he9 : (dvFrom s 1 (i1 - 1)) * 10 ^ n9 + v1.toNat = (dvFrom s 1 (i1 + n9 - 1)) := by rw [hvt, show i1 + n9 - 1 = (i1 - 1) + n9 by omega, dvFrom_add, show 1 + (i1 - 1) = i1 by omega]
        have hk9 : (digs (dvFrom s 1 (i1 + n9 - 1))).length ≤ 70000 := Nat.le_trans (dig_len HD (i := 1) (j := i1 + n9 - 1) (by omega) (by omega)) (by omega)
        refine wp_seq ?_
        have HB : w.heap.size ≤ v1283.heap.size := T1292.size
        refine wp_plan_seq [.val (.is (.bool false))] [] [] w.heap.size (by kernel_rfl) (by kernel_rfl) trivial HB ?_ ?_
        · exact ⟨fun s v h => does_val rfl rfl (x_lss ((h.same 84 rfl).trans p1291) ((h.same 83 rfl).trans p1288)) (congrArg Value.bool e0), trivial⟩
        intro g1335 ts v1335 hts E1335
        simp only [fillL, List.setIfInBounds_toArray, List.set_cons_zero, List.set_cons_succ] at hts
        subst hts
        have T1336 : Below w.heap.size w v1335 := T1292.trans E1335.below
        have l1337 : q1046 < v1283.heap.size := b1293.lt
        have b1338 : Bx v1335 q1046 24 #[.bool false, .slice none 0 0] := (E1335.far q1046 b1293.lt (by simp)).trans b1293
        have f1339 := f1294.mono E1335.mono
        have f1340 := f1295.mono E1335.mono
        have e1341 : g1335 0 = (.bool false) := E1335.facts 0 (by decide)
        refine then_normal ?_
        refine wp_seq ?_
        refine wp_cond_false e1341 ?_
        refine wp_exit ?_
        refine exit_then ?_
        refine exit_then ?_
        refine exit_block ?_
        refine then_normal ?_
        have HB : w.heap.size ≤ v1335.heap.size := T1336.size
        refine wp_plan_seq [.val (.nz 70000 (dvFrom s 1 (i1 - 1))), .val (.is (.int .i64 (n9 : Int))), .val (.is (.int .u32 ((10 ^ n9 : Nat) : Int))), .val (.nz 1 (((10 ^ n9 : Nat) : Int)).toNat), .val (.nz 70001 ((dvFrom s 1 (i1 - 1)) * 10 ^ n9)), .val (.is (.int .u32 v1)), .val (.nz 1 (v1).toNat), .val (.nz 70000 (dvFrom s 1 (i1 + n9 - 1))), .val (.nz 70000 (dvFrom s 1 (i1 + n9 - 1)))] [] [] w.heap.size (by kernel_rfl) (by kernel_rfl) trivial HB ?_ ?_
        · exact ⟨fun s v h => does_val rfl rfl (x_move) ((f1340.mono h.mono).at (h.soon 8 7 rfl rfl)),
      fun s v h => does_val rfl rfl (x_move) ((h.same 9 rfl).trans p1287),
      fun s v h => does_call rfl rfl (x_call1 Try.call111) (nines_k (h.dep 1 rfl) (by omega)),
      fun s v h => does_slice1 rfl rfl (h.dep 2 rfl) hp9a hp9b,
      fun s v h => does_call rfl rfl (x_call2 Try.call91) (nmul_k (h.dep 0 rfl) (h.dep 3 rfl) (by omega) (by omega)),
      fun s v h => does_val rfl rfl (x_move) ((h.same 10 rfl).trans p1290),
      fun s v h => does_slice1 rfl rfl (h.dep 5 rfl) (by omega) (by omega),
      fun s v h => does_call rfl rfl (x_call2 Try.call92) (nadd_m (h.dep 4 rfl) (h.dep 6 rfl) (by omega) (by omega) he9 hk9),
      fun s v h => does_val rfl rfl (x_assign) (h.dep 7 rfl), trivial⟩
        intro g1342 ts v1342 hts E1342
        simp only [fillL, Nat.reduceAdd, List.setIfInBounds_toArray, List.set_cons_zero, List.set_cons_succ] at hts
        subst hts
        have T1343 : Below w.heap.size w v1342 := T1336.trans E1342.below
        have l1344 : q1046 < v1335.heap.size := b1338.lt
        have b1345 : Bx v1342 q1046 24 #[.bool false, .slice none 0 0] := (E1342.far q1046 b1338.lt (by simp)).trans b1338
        have f1346 := f1339.mono E1342.mono
        have f1356 : Nz 70000 v1342 (g1342 8) (dvFrom s 1 (i1 + n9 - 1)) := E1342.facts 8 (by decide)
        refine block_normal ?_
        refine then_normal ?_
        exact ⟨rfl, rfl, _, (by omega), (i1 + n9), p1284, p1285, p1286, (p1289.trans (by rw [e3])), T1343, b1345, f1346, f1356, ⟨by omega, by omega⟩, rfl⟩
    · skip
      have e0 : decide ((i1 : Int) < (s.size : Int)) = false := decide_eq_false (by omega)
      have e2 : i1 = s.size := by omega
      refine wp_seq ?_
      refine wp_seq ?_
      have HB : w.heap.size ≤ v1237.heap.size := T1242.size
      refine wp_plan_seq [.val (.is (.int .i64 (i1 : Int))), .val (.is (.string s)), .val (.is (.int .i64 (s.size : Int))), .val (.is (.bool false))] [] [] w.heap.size (by kernel_rfl) (by kernel_rfl) trivial HB ?_ ?_
      · exact ⟨fun s v h => does_val rfl rfl (x_move) ((h.same 8 rfl).trans p1241),
      fun s v h => does_val rfl rfl (x_move) ((h.same 0 rfl).trans p1239),
      fun s v h => does_val rfl rfl (x_len_str (h.dep 1 rfl)) rfl,
      fun s v h => does_val rfl rfl (x_lss (h.dep 0 rfl) (h.dep 2 rfl)) (congrArg Value.bool e0), trivial⟩
      intro g1357 ts v1357 hts E1357
      simp only [fillL, Nat.reduceAdd, List.setIfInBounds_toArray, List.set_cons_zero, List.set_cons_succ] at hts
      subst hts
      have T1358 : Below w.heap.size w v1357 := T1242.trans E1357.below
      have l1359 : q1046 < v1237.heap.size := b1243.lt
      have b1360 : Bx v1357 q1046 24 #[.bool false, .slice none 0 0] := (E1357.far q1046 b1243.lt (by simp)).trans b1243
      have f1362 := f1245.mono E1357.mono
      have e1366 : g1357 3 = (.bool false) := E1357.facts 3 (by decide)
      refine then_normal ?_
      refine wp_cond_false e1366 ?_
      refine wp_exit ?_
      refine exit_then ?_
      refine exit_then ?_
      refine exit_block ?_
      refine then_normal ?_
      refine wp_seq ?_
      have HB : w.heap.size ≤ v1357.heap.size := T1358.size
      refine wp_plan_seq [.val (.is (.int .i64 1)), .val (.is (.bool true)), .val (.nz 70000 (dvFrom s 1 (i1 - 1))), .val (.cz (zof true (dvFrom s 1 (i1 - 1)))), .put 2 108, .val (.is (.int .i64 0)), .val (.is (.int .i64 0))] [2] [q1046] w.heap.size (by kernel_rfl) (by kernel_rfl) ⟨p1238, b1360.lt, (by simp), trivial⟩ HB ?_ ?_
      · exact ⟨fun s v h => does_val rfl rfl (x_move) ((h.same 5 rfl).trans p1240),
      fun s v h => does_val rfl rfl (x_eql_int (h.dep 0 rfl) rfl) rfl,
      fun s v h => does_val rfl rfl (x_move) ((f1362.mono h.mono).at (h.same 7 rfl)),
      fun s v h => does_call rfl rfl (x_call2 Try.call76) (zmade_k (h.dep 1 rfl) (h.dep 2 rfl)),
      fun s v h => does_put_z rfl rfl ((h.same 2 rfl).trans p1238) (h.dep 3 rfl).shape (h.mono.ok _ _ b1360.ok2) h1052,
      fun s v h => does_val rfl rfl (x_assign) rfl,
      fun s v h => does_val rfl rfl (x_assign) rfl, trivial⟩
      intro g1367 ts v1367 hts E1367
      simp only [fillL, Nat.reduceAdd, List.setIfInBounds_toArray, List.set_cons_zero, List.set_cons_succ] at hts
      subst hts
      have T1368 : Below w.heap.size w v1367 := T1358.trans E1367.below
      have l1369 : q1046 < v1357.heap.size := b1360.lt
      have f1375 : Cz v1367 (g1367 3) (zof true (dvFrom s 1 (i1 - 1))) := E1367.facts 3 (by decide)
      have e1376 : g1367 5 = (.int .i64 0) := E1367.facts 5 (by decide)
      have e1377 : g1367 6 = (.int .i64 0) := E1367.facts 6 (by decide)
      obtain ⟨t1378, x1380, A1381, m1382, c1383, e1384, b1379⟩ := put_info (E1367.facts 4 (by decide)) p1238 f1375.shape
      have f1385 : Cz v1367 (.agg #[.bool x1380, .slice A1381 m1382 c1383]) (zof true (dvFrom s 1 (i1 - 1))) := f1375.at e1384.symm
      refine then_normal ?_
      refine wp_ret ?_
      exact bodyPost_ret (ret_ctt rfl p1238 b1379) rfl ⟨_, rfl, ⟨_, _, _, rfl, (by have := f1385; rw [e2] at this; exact this), e1376, e1377⟩, T1368⟩

set_option maxHeartbeats 4000000 in
set_option maxRecDepth 8000 in
theorem zread_none1 {w : World} {s : ByteArray} (hs : s.size = 1) (d1 : decide ((65536 : Int) < (s.size : Int)) = false) (dp : decide ((0 : Int) < (s.size : Int)) = true) (dm : ((byteN s 0 : Int) == 45) = true) (dq : decide ((1 : Int) < (s.size : Int)) = false) (dn : ((1 : Int) == (s.size : Int)) = true)  : Calls Try.prog 99 #[.string s] w (Ret (.tup3 (.cz 0) (.is (.int .i64 1)) (.is (.int .i64 4))) w) := by
  have T0 : Below w.heap.size w w := Below.refl _ _
  go_enter Try.func99, Try.ntmps99
  refine wp_seq ?_
  have HB : w.heap.size ≤ w.heap.size := T0.size
  refine wp_plan_seq [.new 2 (some (24, #[.bool false, .slice none 0 0])), .val (.is (.int .i64 0)), .val (.is (.int .i64 0))] [] [] w.heap.size (by kernel_rfl) (by kernel_rfl) trivial HB ?_ ?_
  · exact ⟨fun s v h => does_new rfl rfl x_alloc_z (okz _ _ _ _) rfl (.inr rfl),
      fun s v h => does_val rfl rfl (x_assign) rfl,
      fun s v h => does_val rfl rfl (x_assign) rfl, trivial⟩
  intro g1386 ts v1386 hts E1386
  simp only [fillL, Nat.reduceAdd, List.setIfInBounds_toArray, List.set_cons_zero, List.set_cons_succ] at hts
  subst hts
  have T1387 : Below w.heap.size w v1386 := T0.trans E1386.below
  obtain ⟨q1390, p1391, l1392, o1393, b1394⟩ : ∃ q, g1386 0 = .pointer (some ⟨q, 0, none⟩) ∧ w.heap.size ≤ q ∧ OkB v1386 q 2 ∧ Bx v1386 q 24 #[.bool false, .slice none 0 0] := E1386.facts 0 (by decide)
  have f1395 : Cz v1386 (.agg #[.bool false, .slice none 0 0]) 0 := cz_zero _
  have h1396 : w.heap.size ≤ q1390 := Nat.le_trans HB l1392
  refine then_normal ?_
  refine wp_seq ?_
  refine wp_seq ?_
  have HB : w.heap.size ≤ v1386.heap.size := T1387.size
  refine wp_plan_seq [.val (.is (.string s)), .val (.is (.int .i64 (s.size : Int))), .val (.is (.bool false))] [] [] w.heap.size (by kernel_rfl) (by kernel_rfl) trivial HB ?_ ?_
  · exact ⟨fun s v h => does_val rfl rfl (x_move) (h.same 0 rfl),
      fun s v h => does_val rfl rfl (x_len_str (h.dep 0 rfl)) rfl,
      fun s v h => does_val rfl rfl (x_gtr (h.dep 1 rfl) rfl) (congrArg Value.bool d1), trivial⟩
  intro g1397 ts v1397 hts E1397
  simp only [fillL, Nat.reduceAdd, List.setIfInBounds_toArray, List.set_cons_zero, List.set_cons_succ] at hts
  subst hts
  have T1398 : Below w.heap.size w v1397 := T1387.trans E1397.below
  have l1399 : q1390 < v1386.heap.size := b1394.lt
  have b1400 : Bx v1397 q1390 24 #[.bool false, .slice none 0 0] := (E1397.far q1390 b1394.lt (by simp)).trans b1394
  have f1401 := f1395.mono E1397.mono
  have e1404 : g1397 2 = (.bool false) := E1397.facts 2 (by decide)
  refine then_normal ?_
  refine wp_cond_false e1404 ?_
  refine wp_skip ?_
  refine then_normal ?_
  refine wp_seq ?_
  have HB : w.heap.size ≤ v1397.heap.size := T1398.size
  refine wp_plan_seq [.val (.is (.int .i64 0))] [] [] w.heap.size (by kernel_rfl) (by kernel_rfl) trivial HB ?_ ?_
  · exact ⟨fun s v h => does_val rfl rfl (x_assign) rfl, trivial⟩
  intro g1405 ts v1405 hts E1405
  simp only [fillL, List.setIfInBounds_toArray, List.set_cons_zero, List.set_cons_succ] at hts
  subst hts
  have T1406 : Below w.heap.size w v1405 := T1398.trans E1405.below
  have l1407 : q1390 < v1397.heap.size := b1400.lt
  have b1408 : Bx v1405 q1390 24 #[.bool false, .slice none 0 0] := (E1405.far q1390 b1400.lt (by simp)).trans b1400
  have f1409 := f1401.mono E1405.mono
  refine then_normal ?_
  refine wp_seq ?_
  refine wp_seq ?_
  have HB : w.heap.size ≤ v1405.heap.size := T1406.size
  refine wp_plan_seq [.val (.is (.string s)), .val (.is (.int .i64 (s.size : Int))), .val (.is (.bool true)), .val (.is (.bool true)), .val (.is (.string s)), .val (.is (.int .u8 (byteN s 0 : Int))), .val (.is (.bool true)), .val (.is (.bool true))] [] [] w.heap.size (by kernel_rfl) (by kernel_rfl) trivial HB ?_ ?_
  · exact ⟨fun s v h => does_val rfl rfl (x_move) (h.same 0 rfl),
      fun s v h => does_val rfl rfl (x_len_str (h.dep 0 rfl)) rfl,
      fun s v h => does_val rfl rfl (x_gtr (h.dep 1 rfl) rfl) (congrArg Value.bool dp),
      fun s v h => does_val rfl rfl (x_move) (h.dep 2 rfl),
      fun s v h => does_val rfl (wanted_by (b := true) (want := true) rfl rfl (h.dep 3 rfl)) (x_move) (h.same 0 rfl),
      fun s v h => does_val rfl (wanted_by (b := true) (want := true) rfl rfl (h.dep 3 rfl)) (x_index_str (h.dep 4 rfl) (k := 0) rfl (by omega)) rfl,
      fun s v h => does_val rfl (wanted_by (b := true) (want := true) rfl rfl (h.dep 3 rfl)) (x_eql_u8 (h.dep 5 rfl) rfl) (congrArg Value.bool dm),
      fun s v h => does_val rfl rfl (x_pick (h.dep 3 rfl)) (h.dep 6 rfl), trivial⟩
  intro g1411 ts v1411 hts E1411
  simp only [fillL, Nat.reduceAdd, List.setIfInBounds_toArray, List.set_cons_zero, List.set_cons_succ] at hts
  subst hts
  have T1412 : Below w.heap.size w v1411 := T1406.trans E1411.below
  have l1413 : q1390 < v1405.heap.size := b1408.lt
  have b1414 : Bx v1411 q1390 24 #[.bool false, .slice none 0 0] := (E1411.far q1390 b1408.lt (by simp)).trans b1408
  have f1415 := f1409.mono E1411.mono
  have e1423 : g1411 7 = (.bool true) := E1411.facts 7 (by decide)
  refine then_normal ?_
  refine wp_cond_true e1423 ?_
  have HB : w.heap.size ≤ v1411.heap.size := T1412.size
  refine wp_plan_seq [.val (.is (.int .i64 1))] [] [] w.heap.size (by kernel_rfl) (by kernel_rfl) trivial HB ?_ ?_
  · exact ⟨fun s v h => does_val rfl rfl (x_assign) rfl, trivial⟩
  intro g1424 ts v1424 hts E1424
  simp only [fillL, List.setIfInBounds_toArray, List.set_cons_zero, List.set_cons_succ] at hts
  subst hts
  have T1425 : Below w.heap.size w v1424 := T1412.trans E1424.below
  have l1426 : q1390 < v1411.heap.size := b1414.lt
  have b1427 : Bx v1424 q1390 24 #[.bool false, .slice none 0 0] := (E1424.far q1390 b1414.lt (by simp)).trans b1414
  have f1428 := f1415.mono E1424.mono
  have e1429 : g1424 0 = (.int .i64 1) := E1424.facts 0 (by decide)
  refine then_normal ?_
  refine wp_seq ?_
  refine wp_seq ?_
  have HB : w.heap.size ≤ v1424.heap.size := T1425.size
  refine wp_plan_seq [.val (.is (.int .i64 1)), .val (.is (.bool true)), .val (.is (.bool true)), .val (.is (.string s)), .val (.is (.int .i64 (s.size : Int))), .val (.is (.bool false)), .val (.is (.bool false)), .val (.is (.bool false)), .val (.is undef), .val (.is undef), .val (.is undef), .val (.is (.bool false))] [] [] w.heap.size (by kernel_rfl) (by kernel_rfl) trivial HB ?_ ?_
  · exact ⟨fun s v h => does_val rfl rfl (x_move) ((h.same 5 rfl).trans e1429),
      fun s v h => does_val rfl rfl (x_eql_int (h.dep 0 rfl) rfl) rfl,
      fun s v h => does_val rfl rfl (x_move) (h.dep 1 rfl),
      fun s v h => does_val rfl (wanted_by (b := true) (want := true) rfl rfl (h.dep 2 rfl)) (x_move) (h.same 0 rfl),
      fun s v h => does_val rfl (wanted_by (b := true) (want := true) rfl rfl (h.dep 2 rfl)) (x_len_str (h.dep 3 rfl)) rfl,
      fun s v h => does_val rfl (wanted_by (b := true) (want := true) rfl rfl (h.dep 2 rfl)) (x_gtr (h.dep 4 rfl) rfl) (congrArg Value.bool dq),
      fun s v h => does_val rfl rfl (x_pick (h.dep 2 rfl)) (h.dep 5 rfl),
      fun s v h => does_val rfl rfl (x_move) (h.dep 6 rfl),
      fun s v h => does_skip rfl (wanted_by (b := false) (want := true) rfl rfl (h.dep 7 rfl)) rfl,
      fun s v h => does_skip rfl (wanted_by (b := false) (want := true) rfl rfl (h.dep 7 rfl)) rfl,
      fun s v h => does_skip rfl (wanted_by (b := false) (want := true) rfl rfl (h.dep 7 rfl)) rfl,
      fun s v h => does_val rfl rfl (x_pick (h.dep 7 rfl)) rfl, trivial⟩
  intro g1430 ts v1430 hts E1430
  simp only [fillL, Nat.reduceAdd, List.setIfInBounds_toArray, List.set_cons_zero, List.set_cons_succ] at hts
  subst hts
  have T1431 : Below w.heap.size w v1430 := T1425.trans E1430.below
  have l1432 : q1390 < v1424.heap.size := b1427.lt
  have b1433 : Bx v1430 q1390 24 #[.bool false, .slice none 0 0] := (E1430.far q1390 b1427.lt (by simp)).trans b1427
  have f1434 := f1428.mono E1430.mono
  have e1446 : g1430 11 = (.bool false) := E1430.facts 11 (by decide)
  refine then_normal ?_
  refine wp_cond_false e1446 ?_
  refine wp_skip ?_
  refine then_normal ?_
  refine wp_seq ?_
  refine wp_seq ?_
  have HB : w.heap.size ≤ v1430.heap.size := T1431.size
  refine wp_plan_seq [.val (.is (.int .i64 1)), .val (.is (.int .i64 1))] [] [] w.heap.size (by kernel_rfl) (by kernel_rfl) trivial HB ?_ ?_
  · exact ⟨fun s v h => does_val rfl rfl (x_move) ((h.same 5 rfl).trans e1429),
      fun s v h => does_val rfl rfl (x_assign) (h.dep 0 rfl), trivial⟩
  intro g1447 ts v1447 hts E1447
  simp only [fillL, Nat.reduceAdd, List.setIfInBounds_toArray, List.set_cons_zero, List.set_cons_succ] at hts
  subst hts
  have T1448 : Below w.heap.size w v1447 := T1431.trans E1447.below
  have l1449 : q1390 < v1430.heap.size := b1433.lt
  have b1450 : Bx v1447 q1390 24 #[.bool false, .slice none 0 0] := (E1447.far q1390 b1433.lt (by simp)).trans b1433
  have f1451 := f1434.mono E1447.mono
  have e1453 : g1447 1 = (.int .i64 1) := E1447.facts 1 (by decide)
  refine then_normal ?_
  refine wp_block ?_
  refine wp_loop_v 109 (fun k y wL => ∃ (u1 : Unit), y 2 = .pointer (some ⟨q1390, 0, none⟩) ∧ y 0 = (.string s) ∧ y 5 = (.int .i64 1) ∧ y 6 = (.int .i64 1) ∧ Below w.heap.size w wL ∧ Bx wL q1390 24 #[.bool false, .slice none 0 0] ∧ Cz wL (.agg #[.bool false, .slice none 0 0]) 0 ∧ (True) ∧ k = 0) rfl rfl ⟨_, (), p1391, rfl, e1429, e1453, T1448, b1450, f1451, trivial, rfl⟩ ?_
  rintro k y1454 v1454 ⟨u1, p1455, p1456, p1457, p1458, T1459, b1460, f1461, hJ0, hk⟩
  have hlit : litv 109 y1454 = #[y1454 0, y1454 1, y1454 2, y1454 3, y1454 4, y1454 5, y1454 6, y1454 7, y1454 8, y1454 9, y1454 10, y1454 11, y1454 12, y1454 13, y1454 14, y1454 15, y1454 16, y1454 17, y1454 18, y1454 19, y1454 20, y1454 21, y1454 22, y1454 23, y1454 24, y1454 25, y1454 26, y1454 27, y1454 28, y1454 29, y1454 30, y1454 31, y1454 32, y1454 33, y1454 34, y1454 35, y1454 36, y1454 37, y1454 38, y1454 39, y1454 40, y1454 41, y1454 42, y1454 43, y1454 44, y1454 45, y1454 46, y1454 47, y1454 48, y1454 49, y1454 50, y1454 51, y1454 52, y1454 53, y1454 54, y1454 55, y1454 56, y1454 57, y1454 58, y1454 59, y1454 60, y1454 61, y1454 62, y1454 63, y1454 64, y1454 65, y1454 66, y1454 67, y1454 68, y1454 69, y1454 70, y1454 71, y1454 72, y1454 73, y1454 74, y1454 75, y1454 76, y1454 77, y1454 78, y1454 79, y1454 80, y1454 81, y1454 82, y1454 83, y1454 84, y1454 85, y1454 86, y1454 87, y1454 88, y1454 89, y1454 90, y1454 91, y1454 92, y1454 93, y1454 94, y1454 95, y1454 96, y1454 97, y1454 98, y1454 99, y1454 100, y1454 101, y1454 102, y1454 103, y1454 104, y1454 105, y1454 106, y1454 107, y1454 108] := rfl
  rw [hlit]
  clear hlit
  refine wp_seq ?_
  refine wp_seq ?_
  have HB : w.heap.size ≤ v1454.heap.size := T1459.size
  refine wp_plan_seq [.val (.is (.int .i64 1)), .val (.is (.string s)), .val (.is (.int .i64 (s.size : Int))), .val (.is (.bool false))] [] [] w.heap.size (by kernel_rfl) (by kernel_rfl) trivial HB ?_ ?_
  · exact ⟨fun s v h => does_val rfl rfl (x_move) ((h.same 6 rfl).trans p1458),
      fun s v h => does_val rfl rfl (x_move) ((h.same 0 rfl).trans p1456),
      fun s v h => does_val rfl rfl (x_len_str (h.dep 1 rfl)) rfl,
      fun s v h => does_val rfl rfl (x_lss (h.dep 0 rfl) (h.dep 2 rfl)) (congrArg Value.bool dq), trivial⟩
  intro g1462 ts v1462 hts E1462
  simp only [fillL, Nat.reduceAdd, List.setIfInBounds_toArray, List.set_cons_zero, List.set_cons_succ] at hts
  subst hts
  have T1463 : Below w.heap.size w v1462 := T1459.trans E1462.below
  have l1464 : q1390 < v1454.heap.size := b1460.lt
  have b1465 : Bx v1462 q1390 24 #[.bool false, .slice none 0 0] := (E1462.far q1390 b1460.lt (by simp)).trans b1460
  have e1470 : g1462 3 = (.bool false) := E1462.facts 3 (by decide)
  refine then_normal ?_
  refine wp_cond_false e1470 ?_
  refine wp_exit ?_
  refine exit_then ?_
  refine exit_then ?_
  refine exit_block ?_
  refine then_normal ?_
  refine wp_seq ?_
  refine wp_seq ?_
  have HB : w.heap.size ≤ v1462.heap.size := T1463.size
  refine wp_plan_seq [.val (.is (.int .i64 1)), .val (.is (.string s)), .val (.is (.int .i64 (s.size : Int))), .val (.is (.bool true))] [] [] w.heap.size (by kernel_rfl) (by kernel_rfl) trivial HB ?_ ?_
  · exact ⟨fun s v h => does_val rfl rfl (x_move) ((h.same 5 rfl).trans p1457),
      fun s v h => does_val rfl rfl (x_move) ((h.same 0 rfl).trans p1456),
      fun s v h => does_val rfl rfl (x_len_str (h.dep 1 rfl)) rfl,
      fun s v h => does_val rfl rfl (x_eql_int (h.dep 0 rfl) (h.dep 2 rfl)) (congrArg Value.bool dn), trivial⟩
  intro g1471 ts v1471 hts E1471
  simp only [fillL, Nat.reduceAdd, List.setIfInBounds_toArray, List.set_cons_zero, List.set_cons_succ] at hts
  subst hts
  have T1472 : Below w.heap.size w v1471 := T1463.trans E1471.below
  have l1473 : q1390 < v1462.heap.size := b1465.lt
  have b1474 : Bx v1471 q1390 24 #[.bool false, .slice none 0 0] := (E1471.far q1390 b1465.lt (by simp)).trans b1465
  have e1479 : g1471 3 = (.bool true) := E1471.facts 3 (by decide)
  refine then_normal ?_
  refine wp_cond_true e1479 ?_
  refine wp_seq ?_
  have HB : w.heap.size ≤ v1471.heap.size := T1472.size
  refine wp_plan_seq [.val (.is (.agg #[.bool false, .slice none 0 0])), .val (.is (.int .i64 1)), .put 2 71, .val (.is (.int .i64 1)), .val (.is (.int .i64 4))] [2] [q1390] w.heap.size (by kernel_rfl) (by kernel_rfl) ⟨p1455, b1474.lt, (by simp), trivial⟩ HB ?_ ?_
  · exact ⟨fun s v h => does_val rfl rfl x_build0 rfl,
      fun s v h => does_val rfl rfl (x_move) ((h.same 5 rfl).trans p1457),
      fun s v h => does_put_z rfl rfl ((h.same 2 rfl).trans p1455) ⟨_, _, _, _, (h.dep 0 rfl)⟩ (h.mono.ok _ _ b1474.ok2) h1396,
      fun s v h => does_val rfl rfl (x_assign) (h.dep 1 rfl),
      fun s v h => does_val rfl rfl (x_assign) rfl, trivial⟩
  intro g1480 ts v1480 hts E1480
  simp only [fillL, Nat.reduceAdd, List.setIfInBounds_toArray, List.set_cons_zero, List.set_cons_succ] at hts
  subst hts
  have T1481 : Below w.heap.size w v1480 := T1472.trans E1480.below
  have l1482 : q1390 < v1471.heap.size := b1474.lt
  have e1484 : g1480 0 = (.agg #[.bool false, .slice none 0 0]) := E1480.facts 0 (by decide)
  have e1486 : g1480 3 = (.int .i64 1) := E1480.facts 3 (by decide)
  have e1487 : g1480 4 = (.int .i64 4) := E1480.facts 4 (by decide)
  obtain ⟨t1488, b1489⟩ := put_lit (E1480.facts 2 (by decide)) p1455 e1484
  have f1490 : Cz v1480 (.agg #[.bool false, .slice none 0 0]) 0 := cz_zero _
  refine then_normal ?_
  refine wp_ret ?_
  exact bodyPost_ret (ret_ctt rfl p1455 b1489) rfl ⟨_, rfl, ⟨_, _, _, rfl, f1490, e1486, e1487⟩, T1481⟩

set_option maxHeartbeats 4000000 in
set_option maxRecDepth 8000 in
theorem zread_long {w : World} {s : ByteArray} (d1 : decide ((65536 : Int) < (s.size : Int)) = true)  : Calls Try.prog 99 #[.string s] w (Ret (.tup3 (.cz 0) (.is (.int .i64 0)) (.is (.int .i64 2))) w) := by
  have T0 : Below w.heap.size w w := Below.refl _ _
  go_enter Try.func99, Try.ntmps99
  refine wp_seq ?_
  have HB : w.heap.size ≤ w.heap.size := T0.size
  refine wp_plan_seq [.new 2 (some (24, #[.bool false, .slice none 0 0])), .val (.is (.int .i64 0)), .val (.is (.int .i64 0))] [] [] w.heap.size (by kernel_rfl) (by kernel_rfl) trivial HB ?_ ?_
  · exact ⟨fun s v h => does_new rfl rfl x_alloc_z (okz _ _ _ _) rfl (.inr rfl),
      fun s v h => does_val rfl rfl (x_assign) rfl,
      fun s v h => does_val rfl rfl (x_assign) rfl, trivial⟩
  intro g1491 ts v1491 hts E1491
  simp only [fillL, Nat.reduceAdd, List.setIfInBounds_toArray, List.set_cons_zero, List.set_cons_succ] at hts
  subst hts
  have T1492 : Below w.heap.size w v1491 := T0.trans E1491.below
  obtain ⟨q1495, p1496, l1497, o1498, b1499⟩ : ∃ q, g1491 0 = .pointer (some ⟨q, 0, none⟩) ∧ w.heap.size ≤ q ∧ OkB v1491 q 2 ∧ Bx v1491 q 24 #[.bool false, .slice none 0 0] := E1491.facts 0 (by decide)
  have h1501 : w.heap.size ≤ q1495 := Nat.le_trans HB l1497
  refine then_normal ?_
  refine wp_seq ?_
  refine wp_seq ?_
  have HB : w.heap.size ≤ v1491.heap.size := T1492.size
  refine wp_plan_seq [.val (.is (.string s)), .val (.is (.int .i64 (s.size : Int))), .val (.is (.bool true))] [] [] w.heap.size (by kernel_rfl) (by kernel_rfl) trivial HB ?_ ?_
  · exact ⟨fun s v h => does_val rfl rfl (x_move) (h.same 0 rfl),
      fun s v h => does_val rfl rfl (x_len_str (h.dep 0 rfl)) rfl,
      fun s v h => does_val rfl rfl (x_gtr (h.dep 1 rfl) rfl) (congrArg Value.bool d1), trivial⟩
  intro g1502 ts v1502 hts E1502
  simp only [fillL, Nat.reduceAdd, List.setIfInBounds_toArray, List.set_cons_zero, List.set_cons_succ] at hts
  subst hts
  have T1503 : Below w.heap.size w v1502 := T1492.trans E1502.below
  have l1504 : q1495 < v1491.heap.size := b1499.lt
  have b1505 : Bx v1502 q1495 24 #[.bool false, .slice none 0 0] := (E1502.far q1495 b1499.lt (by simp)).trans b1499
  have e1509 : g1502 2 = (.bool true) := E1502.facts 2 (by decide)
  refine then_normal ?_
  refine wp_cond_true e1509 ?_
  refine wp_seq ?_
  have HB : w.heap.size ≤ v1502.heap.size := T1503.size
  refine wp_plan_seq [.val (.is (.agg #[.bool false, .slice none 0 0])), .put 2 14, .val (.is (.int .i64 0)), .val (.is (.int .i64 2))] [2] [q1495] w.heap.size (by kernel_rfl) (by kernel_rfl) ⟨p1496, b1505.lt, (by simp), trivial⟩ HB ?_ ?_
  · exact ⟨fun s v h => does_val rfl rfl x_build0 rfl,
      fun s v h => does_put_z rfl rfl ((h.same 2 rfl).trans p1496) ⟨_, _, _, _, (h.dep 0 rfl)⟩ (h.mono.ok _ _ b1505.ok2) h1501,
      fun s v h => does_val rfl rfl (x_assign) rfl,
      fun s v h => does_val rfl rfl (x_assign) rfl, trivial⟩
  intro g1510 ts v1510 hts E1510
  simp only [fillL, Nat.reduceAdd, List.setIfInBounds_toArray, List.set_cons_zero, List.set_cons_succ] at hts
  subst hts
  have T1511 : Below w.heap.size w v1510 := T1503.trans E1510.below
  have l1512 : q1495 < v1502.heap.size := b1505.lt
  have e1514 : g1510 0 = (.agg #[.bool false, .slice none 0 0]) := E1510.facts 0 (by decide)
  have e1515 : g1510 2 = (.int .i64 0) := E1510.facts 2 (by decide)
  have e1516 : g1510 3 = (.int .i64 2) := E1510.facts 3 (by decide)
  obtain ⟨t1517, b1518⟩ := put_lit (E1510.facts 1 (by decide)) p1496 e1514
  have f1519 : Cz v1510 (.agg #[.bool false, .slice none 0 0]) 0 := cz_zero _
  refine then_normal ?_
  refine wp_ret ?_
  exact bodyPost_ret (ret_ctt rfl p1496 b1518) rfl ⟨_, rfl, ⟨_, _, _, rfl, f1519, e1515, e1516⟩, T1511⟩

set_option maxHeartbeats 4000000 in
set_option maxRecDepth 8000 in
theorem zread_zero {w : World} {s : ByteArray} (hs0 : 1 < s.size) (d1 : decide ((65536 : Int) < (s.size : Int)) = false) (dp : decide ((0 : Int) < (s.size : Int)) = true) (dm : ((byteN s 0 : Int) == 45) = true) (dq : decide ((1 : Int) < (s.size : Int)) = true) (dz : ((byteN s 1 : Int) == 48) = true)  : Calls Try.prog 99 #[.string s] w (Ret (.tup3 (.cz 0) (.is (.int .i64 1)) (.is (.int .i64 4))) w) := by
  have T0 : Below w.heap.size w w := Below.refl _ _
  go_enter Try.func99, Try.ntmps99
  refine wp_seq ?_
  have HB : w.heap.size ≤ w.heap.size := T0.size
  refine wp_plan_seq [.new 2 (some (24, #[.bool false, .slice none 0 0])), .val (.is (.int .i64 0)), .val (.is (.int .i64 0))] [] [] w.heap.size (by kernel_rfl) (by kernel_rfl) trivial HB ?_ ?_
  · exact ⟨fun s v h => does_new rfl rfl x_alloc_z (okz _ _ _ _) rfl (.inr rfl),
      fun s v h => does_val rfl rfl (x_assign) rfl,
      fun s v h => does_val rfl rfl (x_assign) rfl, trivial⟩
  intro g1520 ts v1520 hts E1520
  simp only [fillL, Nat.reduceAdd, List.setIfInBounds_toArray, List.set_cons_zero, List.set_cons_succ] at hts
  subst hts
  have T1521 : Below w.heap.size w v1520 := T0.trans E1520.below
  obtain ⟨q1524, p1525, l1526, o1527, b1528⟩ : ∃ q, g1520 0 = .pointer (some ⟨q, 0, none⟩) ∧ w.heap.size ≤ q ∧ OkB v1520 q 2 ∧ Bx v1520 q 24 #[.bool false, .slice none 0 0] := E1520.facts 0 (by decide)
  have h1530 : w.heap.size ≤ q1524 := Nat.le_trans HB l1526
  refine then_normal ?_
  refine wp_seq ?_
  refine wp_seq ?_
  have HB : w.heap.size ≤ v1520.heap.size := T1521.size
  refine wp_plan_seq [.val (.is (.string s)), .val (.is (.int .i64 (s.size : Int))), .val (.is (.bool false))] [] [] w.heap.size (by kernel_rfl) (by kernel_rfl) trivial HB ?_ ?_
  · exact ⟨fun s v h => does_val rfl rfl (x_move) (h.same 0 rfl),
      fun s v h => does_val rfl rfl (x_len_str (h.dep 0 rfl)) rfl,
      fun s v h => does_val rfl rfl (x_gtr (h.dep 1 rfl) rfl) (congrArg Value.bool d1), trivial⟩
  intro g1531 ts v1531 hts E1531
  simp only [fillL, Nat.reduceAdd, List.setIfInBounds_toArray, List.set_cons_zero, List.set_cons_succ] at hts
  subst hts
  have T1532 : Below w.heap.size w v1531 := T1521.trans E1531.below
  have l1533 : q1524 < v1520.heap.size := b1528.lt
  have b1534 : Bx v1531 q1524 24 #[.bool false, .slice none 0 0] := (E1531.far q1524 b1528.lt (by simp)).trans b1528
  have e1538 : g1531 2 = (.bool false) := E1531.facts 2 (by decide)
  refine then_normal ?_
  refine wp_cond_false e1538 ?_
  refine wp_skip ?_
  refine then_normal ?_
  refine wp_seq ?_
  have HB : w.heap.size ≤ v1531.heap.size := T1532.size
  refine wp_plan_seq [.val (.is (.int .i64 0))] [] [] w.heap.size (by kernel_rfl) (by kernel_rfl) trivial HB ?_ ?_
  · exact ⟨fun s v h => does_val rfl rfl (x_assign) rfl, trivial⟩
  intro g1539 ts v1539 hts E1539
  simp only [fillL, List.setIfInBounds_toArray, List.set_cons_zero, List.set_cons_succ] at hts
  subst hts
  have T1540 : Below w.heap.size w v1539 := T1532.trans E1539.below
  have l1541 : q1524 < v1531.heap.size := b1534.lt
  have b1542 : Bx v1539 q1524 24 #[.bool false, .slice none 0 0] := (E1539.far q1524 b1534.lt (by simp)).trans b1534
  refine then_normal ?_
  refine wp_seq ?_
  refine wp_seq ?_
  have HB : w.heap.size ≤ v1539.heap.size := T1540.size
  refine wp_plan_seq [.val (.is (.string s)), .val (.is (.int .i64 (s.size : Int))), .val (.is (.bool true)), .val (.is (.bool true)), .val (.is (.string s)), .val (.is (.int .u8 (byteN s 0 : Int))), .val (.is (.bool true)), .val (.is (.bool true))] [] [] w.heap.size (by kernel_rfl) (by kernel_rfl) trivial HB ?_ ?_
  · exact ⟨fun s v h => does_val rfl rfl (x_move) (h.same 0 rfl),
      fun s v h => does_val rfl rfl (x_len_str (h.dep 0 rfl)) rfl,
      fun s v h => does_val rfl rfl (x_gtr (h.dep 1 rfl) rfl) (congrArg Value.bool dp),
      fun s v h => does_val rfl rfl (x_move) (h.dep 2 rfl),
      fun s v h => does_val rfl (wanted_by (b := true) (want := true) rfl rfl (h.dep 3 rfl)) (x_move) (h.same 0 rfl),
      fun s v h => does_val rfl (wanted_by (b := true) (want := true) rfl rfl (h.dep 3 rfl)) (x_index_str (h.dep 4 rfl) (k := 0) rfl (by omega)) rfl,
      fun s v h => does_val rfl (wanted_by (b := true) (want := true) rfl rfl (h.dep 3 rfl)) (x_eql_u8 (h.dep 5 rfl) rfl) (congrArg Value.bool dm),
      fun s v h => does_val rfl rfl (x_pick (h.dep 3 rfl)) (h.dep 6 rfl), trivial⟩
  intro g1545 ts v1545 hts E1545
  simp only [fillL, Nat.reduceAdd, List.setIfInBounds_toArray, List.set_cons_zero, List.set_cons_succ] at hts
  subst hts
  have T1546 : Below w.heap.size w v1545 := T1540.trans E1545.below
  have l1547 : q1524 < v1539.heap.size := b1542.lt
  have b1548 : Bx v1545 q1524 24 #[.bool false, .slice none 0 0] := (E1545.far q1524 b1542.lt (by simp)).trans b1542
  have e1557 : g1545 7 = (.bool true) := E1545.facts 7 (by decide)
  refine then_normal ?_
  refine wp_cond_true e1557 ?_
  have HB : w.heap.size ≤ v1545.heap.size := T1546.size
  refine wp_plan_seq [.val (.is (.int .i64 1))] [] [] w.heap.size (by kernel_rfl) (by kernel_rfl) trivial HB ?_ ?_
  · exact ⟨fun s v h => does_val rfl rfl (x_assign) rfl, trivial⟩
  intro g1558 ts v1558 hts E1558
  simp only [fillL, List.setIfInBounds_toArray, List.set_cons_zero, List.set_cons_succ] at hts
  subst hts
  have T1559 : Below w.heap.size w v1558 := T1546.trans E1558.below
  have l1560 : q1524 < v1545.heap.size := b1548.lt
  have b1561 : Bx v1558 q1524 24 #[.bool false, .slice none 0 0] := (E1558.far q1524 b1548.lt (by simp)).trans b1548
  have e1563 : g1558 0 = (.int .i64 1) := E1558.facts 0 (by decide)
  refine then_normal ?_
  refine wp_seq ?_
  refine wp_seq ?_
  have HB : w.heap.size ≤ v1558.heap.size := T1559.size
  refine wp_plan_seq [.val (.is (.int .i64 1)), .val (.is (.bool true)), .val (.is (.bool true)), .val (.is (.string s)), .val (.is (.int .i64 (s.size : Int))), .val (.is (.bool true)), .val (.is (.bool true)), .val (.is (.bool true)), .val (.is (.string s)), .val (.is (.int .u8 (byteN s 1 : Int))), .val (.is (.bool true)), .val (.is (.bool true))] [] [] w.heap.size (by kernel_rfl) (by kernel_rfl) trivial HB ?_ ?_
  · exact ⟨fun s v h => does_val rfl rfl (x_move) ((h.same 5 rfl).trans e1563),
      fun s v h => does_val rfl rfl (x_eql_int (h.dep 0 rfl) rfl) rfl,
      fun s v h => does_val rfl rfl (x_move) (h.dep 1 rfl),
      fun s v h => does_val rfl (wanted_by (b := true) (want := true) rfl rfl (h.dep 2 rfl)) (x_move) (h.same 0 rfl),
      fun s v h => does_val rfl (wanted_by (b := true) (want := true) rfl rfl (h.dep 2 rfl)) (x_len_str (h.dep 3 rfl)) rfl,
      fun s v h => does_val rfl (wanted_by (b := true) (want := true) rfl rfl (h.dep 2 rfl)) (x_gtr (h.dep 4 rfl) rfl) (congrArg Value.bool dq),
      fun s v h => does_val rfl rfl (x_pick (h.dep 2 rfl)) (h.dep 5 rfl),
      fun s v h => does_val rfl rfl (x_move) (h.dep 6 rfl),
      fun s v h => does_val rfl (wanted_by (b := true) (want := true) rfl rfl (h.dep 7 rfl)) (x_move) (h.same 0 rfl),
      fun s v h => does_val rfl (wanted_by (b := true) (want := true) rfl rfl (h.dep 7 rfl)) (x_index_str (h.dep 8 rfl) (k := 1) rfl (by omega)) rfl,
      fun s v h => does_val rfl (wanted_by (b := true) (want := true) rfl rfl (h.dep 7 rfl)) (x_eql_u8 (h.dep 9 rfl) rfl) (congrArg Value.bool dz),
      fun s v h => does_val rfl rfl (x_pick (h.dep 7 rfl)) (h.dep 10 rfl), trivial⟩
  intro g1564 ts v1564 hts E1564
  simp only [fillL, Nat.reduceAdd, List.setIfInBounds_toArray, List.set_cons_zero, List.set_cons_succ] at hts
  subst hts
  have T1565 : Below w.heap.size w v1564 := T1559.trans E1564.below
  have l1566 : q1524 < v1558.heap.size := b1561.lt
  have b1567 : Bx v1564 q1524 24 #[.bool false, .slice none 0 0] := (E1564.far q1524 b1561.lt (by simp)).trans b1561
  have e1580 : g1564 11 = (.bool true) := E1564.facts 11 (by decide)
  refine then_normal ?_
  refine wp_cond_true e1580 ?_
  refine wp_seq ?_
  have HB : w.heap.size ≤ v1564.heap.size := T1565.size
  refine wp_plan_seq [.val (.is (.agg #[.bool false, .slice none 0 0])), .put 2 35, .val (.is (.int .i64 1)), .val (.is (.int .i64 4))] [2] [q1524] w.heap.size (by kernel_rfl) (by kernel_rfl) ⟨p1525, b1567.lt, (by simp), trivial⟩ HB ?_ ?_
  · exact ⟨fun s v h => does_val rfl rfl x_build0 rfl,
      fun s v h => does_put_z rfl rfl ((h.same 2 rfl).trans p1525) ⟨_, _, _, _, (h.dep 0 rfl)⟩ (h.mono.ok _ _ b1567.ok2) h1530,
      fun s v h => does_val rfl rfl (x_assign) rfl,
      fun s v h => does_val rfl rfl (x_assign) rfl, trivial⟩
  intro g1581 ts v1581 hts E1581
  simp only [fillL, Nat.reduceAdd, List.setIfInBounds_toArray, List.set_cons_zero, List.set_cons_succ] at hts
  subst hts
  have T1582 : Below w.heap.size w v1581 := T1565.trans E1581.below
  have l1583 : q1524 < v1564.heap.size := b1567.lt
  have e1585 : g1581 0 = (.agg #[.bool false, .slice none 0 0]) := E1581.facts 0 (by decide)
  have e1586 : g1581 2 = (.int .i64 1) := E1581.facts 2 (by decide)
  have e1587 : g1581 3 = (.int .i64 4) := E1581.facts 3 (by decide)
  obtain ⟨t1588, b1589⟩ := put_lit (E1581.facts 1 (by decide)) p1525 e1585
  have f1590 : Cz v1581 (.agg #[.bool false, .slice none 0 0]) 0 := cz_zero _
  refine then_normal ?_
  refine wp_ret ?_
  exact bodyPost_ret (ret_ctt rfl p1525 b1589) rfl ⟨_, rfl, ⟨_, _, _, rfl, f1590, e1586, e1587⟩, T1582⟩

/-- What Read says. -/
theorem zread_two (s : ByteArray) : ∃ z at_ e : Int, (∀ (v : World) (y : Value), y = .string s → Calls Try.prog 99 #[y] v (Ret (.tup3 (.cz z) (.is (.int .i64 at_)) (.is (.int .i64 e))) v)) ∧
    (e = 0 ∧ at_ = 0 ∧ s = ztxt z ∧ s.size ≤ 65536 ∨ (e = 2 ∨ e = 4) ∧ (s.size ≤ 65536 → ∀ z', s ≠ ztxt z')) := by
  by_cases h1 : 65536 < s.size
  · exact ⟨0, 0, 2, fun v y e => e ▸ zread_long (decide_eq_true (by omega)), .inr ⟨.inl rfl, fun h => absurd h1 (by omega)⟩⟩
  have d1 : decide ((65536 : Int) < (s.size : Int)) = false := decide_eq_false (by omega)
  have ne : ∀ z', s = ztxt z' → (byteN s 0 ≠ 45 ∧ 0 < s.size ∧ ∀ j, j < s.size → ¬ BadF s 0 j) ∨ (byteN s 0 = 45 ∧ 1 < s.size ∧ byteN s 1 ≠ 48 ∧ ∀ j, 1 ≤ j → j < s.size → ¬ BadF s 1 j) := fun z' e => by
    rw [e]
    by_cases hz : z' < 0
    · obtain ⟨a, b, c, d⟩ := ztxt_neg hz
      exact .inr ⟨b, a, c, d⟩
    · obtain ⟨a, b, c⟩ := ztxt_pos (z := z') (by omega)
      exact .inl ⟨b, a, c⟩
  by_cases h0 : s.size = 0
  · refine ⟨0, 0, 4, fun v y e => e ▸ zread_none0 d1 (decide_eq_false (by omega)) (beq_iff_eq.2 (by omega)), .inr ⟨.inr rfl, fun _ z' e => ?_⟩⟩
    rcases ne z' e with ⟨_, h, _⟩ | ⟨_, h, _⟩ <;> omega
  have dp : decide ((0 : Int) < (s.size : Int)) = true := decide_eq_true (by omega)
  have hd : ∀ a, (∀ j, a ≤ j → j < s.size → ¬ BadF s a j) → Hid (∀ j, a ≤ j → j < s.size → 48 ≤ byteN s j ∧ byteN s j ≤ 57) := fun a h => Lib.hid fun j j0 j1 => by
    have := h j j0 j1
    unfold BadF at this
    omega
  by_cases hm : byteN s 0 = 45
  · have dm : ((byteN s 0 : Int) == 45) = true := beq_iff_eq.2 (by omega)
    by_cases h2 : s.size = 1
    · refine ⟨0, 1, 4, fun v y e => e ▸ zread_none1 h2 d1 dp dm (decide_eq_false (by omega)) (beq_iff_eq.2 (by omega)), .inr ⟨.inr rfl, fun _ z' e => ?_⟩⟩
      rcases ne z' e with ⟨h, _⟩ | ⟨_, h, _⟩
      · exact h hm
      · omega
    have hs : 1 < s.size := by omega
    have dq : decide ((1 : Int) < (s.size : Int)) = true := decide_eq_true (by omega)
    by_cases hz : byteN s 1 = 48
    · refine ⟨0, 1, 4, fun v y e => e ▸ zread_zero hs d1 dp dm dq (beq_iff_eq.2 (by omega)), .inr ⟨.inr rfl, fun _ z' e => ?_⟩⟩
      rcases ne z' e with ⟨h, _⟩ | ⟨_, _, h, _⟩
      · exact h hm
      · exact h hz
    have dz : ((byteN s 1 : Int) == 48) = false := beq_eq_false_iff_ne.2 (by omega)
    rcases first_badF s 1 s.size with hg | ⟨m, m0, m1, hb, hg⟩
    · exact ⟨_, 0, 0, fun v y e => e ▸ zread_ok1 d1 dp hs dm dq dz (beq_eq_false_iff_ne.2 (by omega)) rfl (Lib.hid hg) (hd 1 hg), .inl ⟨rfl, rfl, good_neg hs hm hz hg, by omega⟩⟩
    · refine ⟨0, m, 4, fun v y e => ?_, .inr ⟨.inr rfl, fun _ z' e => ?_⟩⟩
      · subst e
        exact zread_bad1 d1 dp hs dm dq dz m0 m1 (Lib.hid hg) hb
      · rcases ne z' e with ⟨h, _⟩ | ⟨_, _, _, h⟩
        · exact h hm
        · exact h m m0 m1 hb
  · have dm : ((byteN s 0 : Int) == 45) = false := beq_eq_false_iff_ne.2 (by omega)
    have hs : 0 < s.size := by omega
    rcases first_badF s 0 s.size with hg | ⟨m, m0, m1, hb, hg⟩
    · exact ⟨_, 0, 0, fun v y e => e ▸ zread_ok0 d1 dp hs dm (beq_eq_false_iff_ne.2 (by omega)) rfl (Lib.hid hg) (hd 0 hg), .inl ⟨rfl, rfl, good_pos hs fun j hj => hg j (by omega) hj, by omega⟩⟩
    · refine ⟨0, m, 4, fun v y e => ?_, .inr ⟨.inr rfl, fun _ z' e => ?_⟩⟩
      · subst e
        exact zread_bad0 d1 dp hs dm m0 m1 (Lib.hid hg) hb
      · rcases ne z' e with ⟨_, _, h⟩ | ⟨h, _⟩
        · exact h m m1 hb
        · exact hm h

end Go.Proofs.Ytdmahjbjlppeaaa
