/- Shift of both. -/
import Derived.Test.YtkidgeeedigkhaaY2
import Derived.Test.YtkidgeeedigkhaaYTop
import Derived.Test.YtkidgeeedigkhaaNumP
import Derived.Test.YtkidgeeedigkhaaLoop
namespace Go.Proofs.Ytkidgeeedigkhaa
open Go.RowKit

theorem does_build_nz {ops : Array Oper} {Q : Exit → Act → World → Prop} {base i : Nat} {a : Act} {w : World} {N M : Nat} {t : Tmp} {d : Option Tmp} {ty : TypeId} {pos : String} {after : Array Edge} {guard : Option (Nat × Bool)}
    (hi : ops[i]? = some ⟨d, .build 24 #[(1, .tmp t)], ty, pos, after, guard⟩) (hg : Region.wanted ⟨d, .build 24 #[(1, .tmp t)], ty, pos, after, guard⟩ (yielded ops a.tmps) = true) (h : Nz N w (Act.vs a t) M) :
    Does Try.prog ops Q base (.val (.az N ((M : Nat) : Int))) i ⟨d, .build 24 #[(1, .tmp t)], ty, pos, after, guard⟩ a w := by
  obtain ⟨A, n, c, l, e, hS, hv, hn⟩ := h
  have e2 : a.eval (.tmp t) = .slice A n c := e
  exact does_val hi hg (x_build1 e2) ⟨false, A, n, c, l, rfl, hS, by rw [hv]; rfl, hn⟩
section
variable {a : Act} {w : World} {d : Option Tmp} {ty : TypeId} {pos : String} {after : Array Edge} {guard : Option (Nat × Bool)}
theorem x_quo {T' : TypeId} {x y : Operand} {m n : Int} (hx : a.eval x = .int .i64 m) (hy : a.eval y = .int .i64 n) (hm : 0 ≤ m) (hm2 : m ≤ 65536) (hn : 0 < n) (hn2 : n < 9223372036854775807) :
    (execOp a.eval ⟨d, .binOp .quo 3 x y T', ty, pos, after, guard⟩).run Try.prog w = .ok (.value (.int .i64 (m / n))) w := by
  have h1 : 0 ≤ m / n := Int.ediv_nonneg hm (by omega)
  have h2 : m / n ≤ m := Int.ediv_le_self _ hm
  simp only [execOp, hx, hy]
  go_simp
  rw [if_neg (by omega), Int.tdiv_eq_ediv_of_nonneg hm, IntKind.wrap_i64]
  congr 3
  omega
theorem i64_and1 (n : Int) : bits .and .i64 n 1 = n % 2 := by
  have h1 : (BitVec.ofInt 64 1).toNat = 2 ^ 1 - 1 := by decide
  have key : (BitVec.ofInt 64 n &&& BitVec.ofInt 64 1).toNat = (n % ((2 ^ 64 : Nat) : Int)).toNat % 2 ^ 1 := by
    rw [BitVec.toNat_and, BitVec.toNat_ofInt, h1, Nat.and_two_pow_sub_one_eq_mod]
  show IntKind.i64.wrap ((BitVec.ofInt 64 n &&& BitVec.ofInt 64 1).toNat : Nat) = n % 2
  rw [key, IntKind.wrap_i64]
  omega
theorem x_and1 {T' : TypeId} {x y : Operand} {m : Int} (hx : a.eval x = .int .i64 m) (hy : a.eval y = .int .i64 1) :
    (execOp a.eval ⟨d, .binOp .and 3 x y T', ty, pos, after, guard⟩).run Try.prog w = .ok (.value (.int .i64 (m % 2))) w := by
  simp only [execOp, hx, hy]
  go_simp
  rw [i64_and1]
theorem x_shr1 {x y : Operand} {m : Int} (hx : a.eval x = .int .i64 m) (hy : a.eval y = .int .u64 1) :
    (execOp a.eval ⟨d, .binOp .shr 3 x y 80, ty, pos, after, guard⟩).run Try.prog w = .ok (.value (.int .i64 (m / 2))) w := by
  simp only [execOp, hx, hy]
  go_simp
theorem x_neg {x : Operand} {m : Int} (hx : a.eval x = .int .i64 m) (h : IntKind.i64.wrap (-m) = -m) :
    (execOp a.eval ⟨d, .unOp .neg 3 x, ty, pos, after, guard⟩).run Try.prog w = .ok (.value (.int .i64 (-m))) w := by
  simp only [execOp, hx]
  go_simp
end

set_option maxHeartbeats 4000000 in
set_option maxRecDepth 8000 in
theorem zshift_a {w : World} {x : Value} {z : Int} {N0 : Nat} (h0 : Az N0 w x z) (hN0 : N0 ≤ 1000000000) {n : Int} (d1 : decide (65536 < n) = true)  : Calls Try.prog 37 #[x, .int .i64 n] w (Ret (.tup2 (.cz 0) (.is (.int .i64 2))) w) := by
  have _u := hN0
  have la0 := h0.len
  obtain ⟨na0, A0, n0, c0, M0, rfl, hm0, hz0⟩ := h0.parts
  have T0 : Below w.heap.size w w := Below.refl _ _
  go_enter Try.func37, Try.ntmps37
  refine wp_seq ?_
  have HB : w.heap.size ≤ w.heap.size := T0.size
  refine wp_plan_seq [.new 2 (some (24, #[.bool na0, .slice A0 n0 c0])), .new 2 (some (24, #[.bool false, .slice none 0 0])), .val (.is (.int .i64 0))] [] [] w.heap.size (by kernel_rfl) (by kernel_rfl) trivial HB ?_ ?_
  · exact ⟨fun s v h => does_new rfl rfl (x_box_z (h.same 0 rfl)) (okz _ _ _ _) rfl (.inr rfl),
      fun s v h => does_new rfl rfl x_alloc_z (okz _ _ _ _) rfl (.inr rfl),
      fun s v h => does_val rfl rfl (x_assign) rfl, trivial⟩
  intro g1 ts v1 hts E1
  simp only [fillL, Nat.reduceAdd, List.setIfInBounds_toArray, List.set_cons_zero, List.set_cons_succ] at hts
  subst hts
  have T2 : Below w.heap.size w v1 := T0.trans E1.below
  obtain ⟨q6, p7, l8, o9, b10⟩ : ∃ q, g1 0 = .pointer (some ⟨q, 0, none⟩) ∧ w.heap.size ≤ q ∧ OkB v1 q 2 ∧ Bx v1 q 24 #[.bool na0, .slice A0 n0 c0] := E1.facts 0 (by decide)
  have h11 : w.heap.size ≤ q6 := Nat.le_trans HB l8
  obtain ⟨q12, p13, l14, o15, b16⟩ : ∃ q, g1 1 = .pointer (some ⟨q, 0, none⟩) ∧ w.heap.size ≤ q ∧ OkB v1 q 2 ∧ Bx v1 q 24 #[.bool false, .slice none 0 0] := E1.facts 1 (by decide)
  have h18 : w.heap.size ≤ q12 := Nat.le_trans HB l14
  refine then_normal ?_
  refine wp_seq ?_
  refine wp_seq ?_
  have HB : w.heap.size ≤ v1.heap.size := T2.size
  refine wp_plan_seq [.val (.is (.int .i64 n)), .val (.is (.bool true)), .val (.is (.bool true)), .val (.is undef), .val (.is undef), .val (.is (.bool true))] [] [] w.heap.size (by kernel_rfl) (by kernel_rfl) trivial HB ?_ ?_
  · exact ⟨fun s v h => does_val rfl rfl (x_move) (h.same 1 rfl),
      fun s v h => does_val rfl rfl (x_gtr (h.dep 0 rfl) rfl) (congrArg Value.bool d1),
      fun s v h => does_val rfl rfl (x_move) (h.dep 1 rfl),
      fun s v h => does_skip rfl (wanted_by (b := true) (want := false) rfl rfl (h.dep 2 rfl)) rfl,
      fun s v h => does_skip rfl (wanted_by (b := true) (want := false) rfl rfl (h.dep 2 rfl)) rfl,
      fun s v h => does_val rfl rfl (x_pick (h.dep 2 rfl)) rfl, trivial⟩
  intro g20 ts v20 hts E20
  simp only [fillL, Nat.reduceAdd, List.setIfInBounds_toArray, List.set_cons_zero, List.set_cons_succ] at hts
  subst hts
  have T21 : Below w.heap.size w v20 := T2.trans E20.below
  have l22 : q6 < v1.heap.size := b10.lt
  have l23 : q12 < v1.heap.size := b16.lt
  have b24 : Bx v20 q6 24 #[.bool na0, .slice A0 n0 c0] := (E20.far q6 b10.lt (by simp)).trans b10
  have b25 : Bx v20 q12 24 #[.bool false, .slice none 0 0] := (E20.far q12 b16.lt (by simp)).trans b16
  have e34 : g20 5 = (.bool true) := E20.facts 5 (by decide)
  refine then_normal ?_
  refine wp_cond_true e34 ?_
  refine wp_seq ?_
  have HB : w.heap.size ≤ v20.heap.size := T21.size
  refine wp_plan_seq [.val (.is (.agg #[.bool false, .slice none 0 0])), .put 4 15, .val (.is (.int .i64 2))] [4] [q12] w.heap.size (by kernel_rfl) (by kernel_rfl) ⟨p13, b25.lt, (by simp), trivial⟩ HB ?_ ?_
  · exact ⟨fun s v h => does_val rfl rfl x_build0 rfl,
      fun s v h => does_put_z rfl rfl ((h.same 4 rfl).trans p13) ⟨_, _, _, _, (h.dep 0 rfl)⟩ (h.mono.ok _ _ b25.ok2) h18,
      fun s v h => does_val rfl rfl (x_assign) rfl, trivial⟩
  intro g35 ts v35 hts E35
  simp only [fillL, Nat.reduceAdd, List.setIfInBounds_toArray, List.set_cons_zero, List.set_cons_succ] at hts
  subst hts
  have T36 : Below w.heap.size w v35 := T21.trans E35.below
  have l37 : q6 < v20.heap.size := b24.lt
  have l38 : q12 < v20.heap.size := b25.lt
  have e43 : g35 0 = (.agg #[.bool false, .slice none 0 0]) := E35.facts 0 (by decide)
  have e44 : g35 2 = (.int .i64 2) := E35.facts 2 (by decide)
  obtain ⟨t45, b46⟩ := put_lit (E35.facts 1 (by decide)) p13 e43
  have f47 : Cz v35 (.agg #[.bool false, .slice none 0 0]) 0 := cz_zero _
  refine then_normal ?_
  refine wp_ret ?_
  exact bodyPost_ret (ret_ct rfl p13 b46) rfl ⟨_, rfl, ⟨_, _, rfl, f47, e44⟩, T36⟩

set_option maxHeartbeats 4000000 in
set_option maxRecDepth 8000 in
theorem zshift_b {w : World} {x : Value} {z : Int} {N0 : Nat} (h0 : Az N0 w x z) (hN0 : N0 ≤ 1000000000) {n : Int} (d1 : decide (65536 < n) = false) (d2 : decide (n < -65536) = true)  : Calls Try.prog 37 #[x, .int .i64 n] w (Ret (.tup2 (.cz 0) (.is (.int .i64 2))) w) := by
  have _u := hN0
  have la0 := h0.len
  obtain ⟨na0, A0, n0, c0, M0, rfl, hm0, hz0⟩ := h0.parts
  have T0 : Below w.heap.size w w := Below.refl _ _
  go_enter Try.func37, Try.ntmps37
  refine wp_seq ?_
  have HB : w.heap.size ≤ w.heap.size := T0.size
  refine wp_plan_seq [.new 2 (some (24, #[.bool na0, .slice A0 n0 c0])), .new 2 (some (24, #[.bool false, .slice none 0 0])), .val (.is (.int .i64 0))] [] [] w.heap.size (by kernel_rfl) (by kernel_rfl) trivial HB ?_ ?_
  · exact ⟨fun s v h => does_new rfl rfl (x_box_z (h.same 0 rfl)) (okz _ _ _ _) rfl (.inr rfl),
      fun s v h => does_new rfl rfl x_alloc_z (okz _ _ _ _) rfl (.inr rfl),
      fun s v h => does_val rfl rfl (x_assign) rfl, trivial⟩
  intro g48 ts v48 hts E48
  simp only [fillL, Nat.reduceAdd, List.setIfInBounds_toArray, List.set_cons_zero, List.set_cons_succ] at hts
  subst hts
  have T49 : Below w.heap.size w v48 := T0.trans E48.below
  obtain ⟨q53, p54, l55, o56, b57⟩ : ∃ q, g48 0 = .pointer (some ⟨q, 0, none⟩) ∧ w.heap.size ≤ q ∧ OkB v48 q 2 ∧ Bx v48 q 24 #[.bool na0, .slice A0 n0 c0] := E48.facts 0 (by decide)
  have h58 : w.heap.size ≤ q53 := Nat.le_trans HB l55
  obtain ⟨q59, p60, l61, o62, b63⟩ : ∃ q, g48 1 = .pointer (some ⟨q, 0, none⟩) ∧ w.heap.size ≤ q ∧ OkB v48 q 2 ∧ Bx v48 q 24 #[.bool false, .slice none 0 0] := E48.facts 1 (by decide)
  have h65 : w.heap.size ≤ q59 := Nat.le_trans HB l61
  refine then_normal ?_
  refine wp_seq ?_
  refine wp_seq ?_
  have HB : w.heap.size ≤ v48.heap.size := T49.size
  refine wp_plan_seq [.val (.is (.int .i64 n)), .val (.is (.bool false)), .val (.is (.bool false)), .val (.is (.int .i64 n)), .val (.is (.bool true)), .val (.is (.bool true))] [] [] w.heap.size (by kernel_rfl) (by kernel_rfl) trivial HB ?_ ?_
  · exact ⟨fun s v h => does_val rfl rfl (x_move) (h.same 1 rfl),
      fun s v h => does_val rfl rfl (x_gtr (h.dep 0 rfl) rfl) (congrArg Value.bool d1),
      fun s v h => does_val rfl rfl (x_move) (h.dep 1 rfl),
      fun s v h => does_val rfl (wanted_by (b := false) (want := false) rfl rfl (h.dep 2 rfl)) (x_move) (h.same 1 rfl),
      fun s v h => does_val rfl (wanted_by (b := false) (want := false) rfl rfl (h.dep 2 rfl)) (x_lss (h.dep 3 rfl) rfl) (congrArg Value.bool d2),
      fun s v h => does_val rfl rfl (x_pick (h.dep 2 rfl)) (h.dep 4 rfl), trivial⟩
  intro g67 ts v67 hts E67
  simp only [fillL, Nat.reduceAdd, List.setIfInBounds_toArray, List.set_cons_zero, List.set_cons_succ] at hts
  subst hts
  have T68 : Below w.heap.size w v67 := T49.trans E67.below
  have l69 : q53 < v48.heap.size := b57.lt
  have l70 : q59 < v48.heap.size := b63.lt
  have b71 : Bx v67 q53 24 #[.bool na0, .slice A0 n0 c0] := (E67.far q53 b57.lt (by simp)).trans b57
  have b72 : Bx v67 q59 24 #[.bool false, .slice none 0 0] := (E67.far q59 b63.lt (by simp)).trans b63
  have e81 : g67 5 = (.bool true) := E67.facts 5 (by decide)
  refine then_normal ?_
  refine wp_cond_true e81 ?_
  refine wp_seq ?_
  have HB : w.heap.size ≤ v67.heap.size := T68.size
  refine wp_plan_seq [.val (.is (.agg #[.bool false, .slice none 0 0])), .put 4 15, .val (.is (.int .i64 2))] [4] [q59] w.heap.size (by kernel_rfl) (by kernel_rfl) ⟨p60, b72.lt, (by simp), trivial⟩ HB ?_ ?_
  · exact ⟨fun s v h => does_val rfl rfl x_build0 rfl,
      fun s v h => does_put_z rfl rfl ((h.same 4 rfl).trans p60) ⟨_, _, _, _, (h.dep 0 rfl)⟩ (h.mono.ok _ _ b72.ok2) h65,
      fun s v h => does_val rfl rfl (x_assign) rfl, trivial⟩
  intro g82 ts v82 hts E82
  simp only [fillL, Nat.reduceAdd, List.setIfInBounds_toArray, List.set_cons_zero, List.set_cons_succ] at hts
  subst hts
  have T83 : Below w.heap.size w v82 := T68.trans E82.below
  have l84 : q53 < v67.heap.size := b71.lt
  have l85 : q59 < v67.heap.size := b72.lt
  have e90 : g82 0 = (.agg #[.bool false, .slice none 0 0]) := E82.facts 0 (by decide)
  have e91 : g82 2 = (.int .i64 2) := E82.facts 2 (by decide)
  obtain ⟨t92, b93⟩ := put_lit (E82.facts 1 (by decide)) p60 e90
  have f94 : Cz v82 (.agg #[.bool false, .slice none 0 0]) 0 := cz_zero _
  refine then_normal ?_
  refine wp_ret ?_
  exact bodyPost_ret (ret_ct rfl p60 b93) rfl ⟨_, rfl, ⟨_, _, rfl, f94, e91⟩, T83⟩

set_option maxHeartbeats 4000000 in
set_option maxRecDepth 8000 in
theorem zshift_c {w : World} {x : Value} {z : Int} {N0 : Nat} (h0 : Az N0 w x z) (hN0 : N0 ≤ 1000000000) {e : Nat} (he : e ≤ 65536) (d1 : decide (65536 < (e : Int)) = false) (d2 : decide ((e : Int) < -65536) = false) (d3 : decide (0 ≤ (e : Int)) = true)  : Calls Try.prog 37 #[x, .int .i64 (e : Int)] w (Ret (.tup2 (.cz (z * ((2 ^ e : Nat) : Int))) (.is (.int .i64 0))) w) := by
  have _u := hN0
  have la0 := h0.len
  obtain ⟨na0, A0, n0, c0, M0, rfl, hm0, hz0⟩ := h0.parts
  have T0 : Below w.heap.size w w := Below.refl _ _
  go_enter Try.func37, Try.ntmps37
  refine wp_seq ?_
  have HB : w.heap.size ≤ w.heap.size := T0.size
  refine wp_plan_seq [.new 2 (some (24, #[.bool na0, .slice A0 n0 c0])), .new 2 (some (24, #[.bool false, .slice none 0 0])), .val (.is (.int .i64 0))] [] [] w.heap.size (by kernel_rfl) (by kernel_rfl) trivial HB ?_ ?_
  · exact ⟨fun s v h => does_new rfl rfl (x_box_z (h.same 0 rfl)) (okz _ _ _ _) rfl (.inr rfl),
      fun s v h => does_new rfl rfl x_alloc_z (okz _ _ _ _) rfl (.inr rfl),
      fun s v h => does_val rfl rfl (x_assign) rfl, trivial⟩
  intro g95 ts v95 hts E95
  simp only [fillL, Nat.reduceAdd, List.setIfInBounds_toArray, List.set_cons_zero, List.set_cons_succ] at hts
  subst hts
  have T96 : Below w.heap.size w v95 := T0.trans E95.below
  have f97 := h0.mono E95.mono
  obtain ⟨q100, p101, l102, o103, b104⟩ : ∃ q, g95 0 = .pointer (some ⟨q, 0, none⟩) ∧ w.heap.size ≤ q ∧ OkB v95 q 2 ∧ Bx v95 q 24 #[.bool na0, .slice A0 n0 c0] := E95.facts 0 (by decide)
  have h105 : w.heap.size ≤ q100 := Nat.le_trans HB l102
  obtain ⟨q106, p107, l108, o109, b110⟩ : ∃ q, g95 1 = .pointer (some ⟨q, 0, none⟩) ∧ w.heap.size ≤ q ∧ OkB v95 q 2 ∧ Bx v95 q 24 #[.bool false, .slice none 0 0] := E95.facts 1 (by decide)
  have h112 : w.heap.size ≤ q106 := Nat.le_trans HB l108
  have n113 : q100 ≠ q106 := apart_ne (E95.apart 0 1 (by decide) (by decide) (by decide) ⟨_, _, rfl⟩ ⟨_, _, rfl⟩) p101 p107
  refine then_normal ?_
  refine wp_seq ?_
  refine wp_seq ?_
  have HB : w.heap.size ≤ v95.heap.size := T96.size
  refine wp_plan_seq [.val (.is (.int .i64 (e : Int))), .val (.is (.bool false)), .val (.is (.bool false)), .val (.is (.int .i64 (e : Int))), .val (.is (.bool false)), .val (.is (.bool false))] [] [] w.heap.size (by kernel_rfl) (by kernel_rfl) trivial HB ?_ ?_
  · exact ⟨fun s v h => does_val rfl rfl (x_move) (h.same 1 rfl),
      fun s v h => does_val rfl rfl (x_gtr (h.dep 0 rfl) rfl) (congrArg Value.bool d1),
      fun s v h => does_val rfl rfl (x_move) (h.dep 1 rfl),
      fun s v h => does_val rfl (wanted_by (b := false) (want := false) rfl rfl (h.dep 2 rfl)) (x_move) (h.same 1 rfl),
      fun s v h => does_val rfl (wanted_by (b := false) (want := false) rfl rfl (h.dep 2 rfl)) (x_lss (h.dep 3 rfl) rfl) (congrArg Value.bool d2),
      fun s v h => does_val rfl rfl (x_pick (h.dep 2 rfl)) (h.dep 4 rfl), trivial⟩
  intro g114 ts v114 hts E114
  simp only [fillL, Nat.reduceAdd, List.setIfInBounds_toArray, List.set_cons_zero, List.set_cons_succ] at hts
  subst hts
  have T115 : Below w.heap.size w v114 := T96.trans E114.below
  have l116 : q100 < v95.heap.size := b104.lt
  have l117 : q106 < v95.heap.size := b110.lt
  have b118 : Bx v114 q100 24 #[.bool na0, .slice A0 n0 c0] := (E114.far q100 b104.lt (by simp)).trans b104
  have b119 : Bx v114 q106 24 #[.bool false, .slice none 0 0] := (E114.far q106 b110.lt (by simp)).trans b110
  have f120 := f97.mono E114.mono
  have e128 : g114 5 = (.bool false) := E114.facts 5 (by decide)
  refine then_normal ?_
  refine wp_cond_false e128 ?_
  refine wp_skip ?_
  refine then_normal ?_
  refine wp_seq ?_
  refine wp_seq ?_
  have HB : w.heap.size ≤ v114.heap.size := T115.size
  refine wp_plan_seq [.val (.is (.int .i64 (e : Int))), .val (.is (.bool true))] [] [] w.heap.size (by kernel_rfl) (by kernel_rfl) trivial HB ?_ ?_
  · exact ⟨fun s v h => does_val rfl rfl (x_move) (h.same 1 rfl),
      fun s v h => does_val rfl rfl (x_geq (h.dep 0 rfl) rfl) (congrArg Value.bool d3), trivial⟩
  intro g129 ts v129 hts E129
  simp only [fillL, Nat.reduceAdd, List.setIfInBounds_toArray, List.set_cons_zero, List.set_cons_succ] at hts
  subst hts
  have T130 : Below w.heap.size w v129 := T115.trans E129.below
  have l131 : q100 < v114.heap.size := b118.lt
  have l132 : q106 < v114.heap.size := b119.lt
  have b133 : Bx v129 q100 24 #[.bool na0, .slice A0 n0 c0] := (E129.far q100 b118.lt (by simp)).trans b118
  have b134 : Bx v129 q106 24 #[.bool false, .slice none 0 0] := (E129.far q106 b119.lt (by simp)).trans b119
  have f135 := f120.mono E129.mono
  have e139 : g129 1 = (.bool true) := E129.facts 1 (by decide)
  refine then_normal ?_
  refine wp_cond_true e139 ?_
  refine wp_seq ?_
  have HB : w.heap.size ≤ v129.heap.size := T130.size
  refine wp_plan_any [.val (.az N0 z), .val (.is (.int .i64 (e : Int))), .val (.nz (e / 32 + 1) (2 ^ e)), .val (.az (e / 32 + 1) ((2 ^ e : Nat) : Int)), .val (.cz (z * ((2 ^ e : Nat) : Int))), .put 4 22, .val (.is (.int .i64 0))] [4] [q106] w.heap.size (by kernel_rfl) (by kernel_rfl) (by kernel_rfl) ⟨p107, b134.lt, (by simp), trivial⟩ HB ?_ ?_
  · exact ⟨fun s v h => does_val rfl rfl (x_load_z ((h.same 2 rfl).trans p101) ((h.far q100 b133.lt (nin1 n113)).trans b133)) (f135.mono ((Mono.drew _).trans h.mono)),
      fun s v h => does_val rfl rfl (x_move) (h.same 1 rfl),
      fun s v h => does_call rfl rfl (x_call1 Try.call64) (ztwo_k (h.dep 1 rfl) (by omega) (Nat.le_refl _)),
      fun s v h => does_build_nz rfl rfl (h.dep 2 rfl),
      fun s v h => does_call rfl rfl (x_call2 Try.call16) (mul_k (h.dep 0 rfl) (h.dep 3 rfl) (by omega) (by omega)),
      fun s v h => does_put_z rfl rfl ((h.same 4 rfl).trans p107) (h.dep 4 rfl).shape (((Mono.drew _).trans h.mono).ok _ _ b134.ok2) h112,
      fun s v h => does_val rfl rfl (x_assign) rfl, trivial⟩
  intro g140 ts v140 hts E140
  simp only [fillL, Nat.reduceAdd, List.setIfInBounds_toArray, List.set_cons_zero, List.set_cons_succ] at hts
  subst hts
  have T141 : Below w.heap.size w v140 := (below_toDrew T130).trans E140.below
  have l142 : q100 < v129.heap.size := b133.lt
  have l143 : q106 < v129.heap.size := b134.lt
  have f152 : Cz v140 (g140 4) (z * ((2 ^ e : Nat) : Int)) := E140.facts 4 (by decide)
  have e153 : g140 6 = (.int .i64 0) := E140.facts 6 (by decide)
  obtain ⟨t154, x156, A157, m158, c159, e160, b155⟩ := put_info (E140.facts 5 (by decide)) p107 f152.shape
  have f161 : Cz v140 (.agg #[.bool x156, .slice A157 m158 c159]) (z * ((2 ^ e : Nat) : Int)) := f152.at e160.symm
  refine then_normal ?_
  refine wp_ret ?_
  exact bodyPost_ret (ret_ct rfl p107 b155) rfl ⟨_, rfl, ⟨_, _, rfl, f161, e153⟩, T141⟩

set_option maxHeartbeats 4000000 in
set_option maxRecDepth 8000 in
theorem zshift_d {w : World} {x : Value} {z : Int} {N0 : Nat} (h0 : Az N0 w x z) (hN0 : N0 ≤ 1000000000) {e : Nat} (he : e ≤ 65536) (d1 : decide (65536 < -(e : Int)) = false) (d2 : decide (-(e : Int) < -65536) = false) (d3 : decide (0 ≤ -(e : Int)) = false)  : Calls Try.prog 37 #[x, .int .i64 (-(e : Int))] w (Ret (.tup2 (.cz (fl z ((2 ^ e : Nat) : Int))) (.is (.int .i64 0))) w) := by
  have _u := hN0
  have la0 := h0.len
  obtain ⟨na0, A0, n0, c0, M0, rfl, hm0, hz0⟩ := h0.parts
  have T0 : Below w.heap.size w w := Below.refl _ _
  go_enter Try.func37, Try.ntmps37
  refine wp_seq ?_
  have HB : w.heap.size ≤ w.heap.size := T0.size
  refine wp_plan_seq [.new 2 (some (24, #[.bool na0, .slice A0 n0 c0])), .new 2 (some (24, #[.bool false, .slice none 0 0])), .val (.is (.int .i64 0))] [] [] w.heap.size (by kernel_rfl) (by kernel_rfl) trivial HB ?_ ?_
  · exact ⟨fun s v h => does_new rfl rfl (x_box_z (h.same 0 rfl)) (okz _ _ _ _) rfl (.inr rfl),
      fun s v h => does_new rfl rfl x_alloc_z (okz _ _ _ _) rfl (.inr rfl),
      fun s v h => does_val rfl rfl (x_assign) rfl, trivial⟩
  intro g162 ts v162 hts E162
  simp only [fillL, Nat.reduceAdd, List.setIfInBounds_toArray, List.set_cons_zero, List.set_cons_succ] at hts
  subst hts
  have T163 : Below w.heap.size w v162 := T0.trans E162.below
  have f164 := h0.mono E162.mono
  obtain ⟨q167, p168, l169, o170, b171⟩ : ∃ q, g162 0 = .pointer (some ⟨q, 0, none⟩) ∧ w.heap.size ≤ q ∧ OkB v162 q 2 ∧ Bx v162 q 24 #[.bool na0, .slice A0 n0 c0] := E162.facts 0 (by decide)
  have h172 : w.heap.size ≤ q167 := Nat.le_trans HB l169
  obtain ⟨q173, p174, l175, o176, b177⟩ : ∃ q, g162 1 = .pointer (some ⟨q, 0, none⟩) ∧ w.heap.size ≤ q ∧ OkB v162 q 2 ∧ Bx v162 q 24 #[.bool false, .slice none 0 0] := E162.facts 1 (by decide)
  have h179 : w.heap.size ≤ q173 := Nat.le_trans HB l175
  refine then_normal ?_
  refine wp_seq ?_
  refine wp_seq ?_
  have HB : w.heap.size ≤ v162.heap.size := T163.size
  refine wp_plan_seq [.val (.is (.int .i64 (-(e : Int)))), .val (.is (.bool false)), .val (.is (.bool false)), .val (.is (.int .i64 (-(e : Int)))), .val (.is (.bool false)), .val (.is (.bool false))] [] [] w.heap.size (by kernel_rfl) (by kernel_rfl) trivial HB ?_ ?_
  · exact ⟨fun s v h => does_val rfl rfl (x_move) (h.same 1 rfl),
      fun s v h => does_val rfl rfl (x_gtr (h.dep 0 rfl) rfl) (congrArg Value.bool d1),
      fun s v h => does_val rfl rfl (x_move) (h.dep 1 rfl),
      fun s v h => does_val rfl (wanted_by (b := false) (want := false) rfl rfl (h.dep 2 rfl)) (x_move) (h.same 1 rfl),
      fun s v h => does_val rfl (wanted_by (b := false) (want := false) rfl rfl (h.dep 2 rfl)) (x_lss (h.dep 3 rfl) rfl) (congrArg Value.bool d2),
      fun s v h => does_val rfl rfl (x_pick (h.dep 2 rfl)) (h.dep 4 rfl), trivial⟩
  intro g181 ts v181 hts E181
  simp only [fillL, Nat.reduceAdd, List.setIfInBounds_toArray, List.set_cons_zero, List.set_cons_succ] at hts
  subst hts
  have T182 : Below w.heap.size w v181 := T163.trans E181.below
  have l183 : q167 < v162.heap.size := b171.lt
  have l184 : q173 < v162.heap.size := b177.lt
  have b185 : Bx v181 q167 24 #[.bool na0, .slice A0 n0 c0] := (E181.far q167 b171.lt (by simp)).trans b171
  have b186 : Bx v181 q173 24 #[.bool false, .slice none 0 0] := (E181.far q173 b177.lt (by simp)).trans b177
  have f187 := f164.mono E181.mono
  have e195 : g181 5 = (.bool false) := E181.facts 5 (by decide)
  refine then_normal ?_
  refine wp_cond_false e195 ?_
  refine wp_skip ?_
  refine then_normal ?_
  refine wp_seq ?_
  refine wp_seq ?_
  have HB : w.heap.size ≤ v181.heap.size := T182.size
  refine wp_plan_seq [.val (.is (.int .i64 (-(e : Int)))), .val (.is (.bool false))] [] [] w.heap.size (by kernel_rfl) (by kernel_rfl) trivial HB ?_ ?_
  · exact ⟨fun s v h => does_val rfl rfl (x_move) (h.same 1 rfl),
      fun s v h => does_val rfl rfl (x_geq (h.dep 0 rfl) rfl) (congrArg Value.bool d3), trivial⟩
  intro g196 ts v196 hts E196
  simp only [fillL, Nat.reduceAdd, List.setIfInBounds_toArray, List.set_cons_zero, List.set_cons_succ] at hts
  subst hts
  have T197 : Below w.heap.size w v196 := T182.trans E196.below
  have l198 : q167 < v181.heap.size := b185.lt
  have l199 : q173 < v181.heap.size := b186.lt
  have b200 : Bx v196 q167 24 #[.bool na0, .slice A0 n0 c0] := (E196.far q167 b185.lt (by simp)).trans b185
  have b201 : Bx v196 q173 24 #[.bool false, .slice none 0 0] := (E196.far q173 b186.lt (by simp)).trans b186
  have f202 := f187.mono E196.mono
  have e206 : g196 1 = (.bool false) := E196.facts 1 (by decide)
  refine then_normal ?_
  refine wp_cond_false e206 ?_
  refine wp_skip ?_
  refine then_normal ?_
  refine wp_seq ?_
  have HB : w.heap.size ≤ v196.heap.size := T197.size
  refine wp_plan_any [.val (.az N0 z), .val (.is (.int .i64 (-(e : Int)))), .val (.is (.int .i64 (e : Int))), .val (.nz (e / 32 + 1) (2 ^ e)), .val (.az (e / 32 + 1) ((2 ^ e : Nat) : Int)), .val (.tup3 (.cz (fl z ((2 ^ e : Nat) : Int))) (.cz (md z ((2 ^ e : Nat) : Int))) (.is (.int .i64 0))), .val (.tup3 (.cz (fl z ((2 ^ e : Nat) : Int))) (.cz (md z ((2 ^ e : Nat) : Int))) (.is (.int .i64 0))), .val (.cz (fl z ((2 ^ e : Nat) : Int))), .val (.cz (md z ((2 ^ e : Nat) : Int))), .val (.is (.int .i64 0)), .new 2 none, .new 2 none, .put 6 30, .put 7 31, .val (.is (.int .i64 0))] [] [] w.heap.size (by kernel_rfl) (by kernel_rfl) (by kernel_rfl) trivial HB ?_ ?_
  · exact ⟨fun s v h => does_val rfl rfl (x_load_z ((h.same 2 rfl).trans p168) ((h.far q167 b200.lt (by simp)).trans b200)) (f202.mono ((Mono.drew _).trans h.mono)),
      fun s v h => does_val rfl rfl (x_move) (h.same 1 rfl),
      fun s v h => does_val rfl rfl (x_neg (h.dep 1 rfl) (by rw [IntKind.wrap_i64]; omega)) (congrArg (Value.int .i64) (Int.neg_neg _)),
      fun s v h => does_call rfl rfl (x_call1 Try.call64) (ztwo_k (h.dep 2 rfl) (by omega) (Nat.le_refl _)),
      fun s v h => does_build_nz rfl rfl (h.dep 3 rfl),
      fun s v h => does_call rfl rfl (x_call2 Try.call24) (zfloor_k (h.dep 0 rfl) (h.dep 4 rfl) (by omega) (by omega) (by have := pow_pos2 e; omega)),
      fun s v h => does_val rfl rfl (x_move) (h.dep 5 rfl),
      fun s v h => by obtain ⟨r0, r1, r2, e, f0, f1, f2⟩ := tup3_at (h.dep 6 rfl); exact does_val rfl rfl (x_ext e rfl) f0,
      fun s v h => by obtain ⟨r0, r1, r2, e, f0, f1, f2⟩ := tup3_at (h.dep 6 rfl); exact does_val rfl rfl (x_ext e rfl) f1,
      fun s v h => by obtain ⟨r0, r1, r2, e, f0, f1, f2⟩ := tup3_at (h.dep 6 rfl); exact does_val rfl rfl (x_ext e rfl) f2,
      fun s v h => does_new rfl rfl x_alloc_z (okz _ _ _ _) rfl (.inl rfl),
      fun s v h => does_new rfl rfl x_alloc_z (okz _ _ _ _) rfl (.inl rfl),
      fun s v h => by obtain ⟨q, e1, e2, e3⟩ := new_at (h.dep 10 rfl); exact does_put_z rfl rfl e1 (h.dep 7 rfl).shape e3 (Nat.le_trans HB e2),
      fun s v h => by obtain ⟨q, e1, e2, e3⟩ := new_at (h.dep 11 rfl); exact does_put_z rfl rfl e1 (h.dep 8 rfl).shape e3 (Nat.le_trans HB e2),
      fun s v h => does_val rfl rfl (x_assign) (h.dep 9 rfl), trivial⟩
  intro g207 ts v207 hts E207
  simp only [fillL, Nat.reduceAdd, List.setIfInBounds_toArray, List.set_cons_zero, List.set_cons_succ] at hts
  subst hts
  have T208 : Below w.heap.size w v207 := (below_toDrew T197).trans E207.below
  have l209 : q167 < v196.heap.size := b200.lt
  have l210 : q173 < v196.heap.size := b201.lt
  have b211 : Bx v207 q167 24 #[.bool na0, .slice A0 n0 c0] := (E207.far q167 b200.lt (by simp)).trans b200
  have b212 : Bx v207 q173 24 #[.bool false, .slice none 0 0] := (E207.far q173 b201.lt (by simp)).trans b201
  have f221 : Cz v207 (g207 7) (fl z ((2 ^ e : Nat) : Int)) := E207.facts 7 (by decide)
  have f222 : Cz v207 (g207 8) (md z ((2 ^ e : Nat) : Int)) := E207.facts 8 (by decide)
  obtain ⟨q225, p226, l227, o228⟩ : ∃ q, g207 10 = .pointer (some ⟨q, 0, none⟩) ∧ v196.heap.size ≤ q ∧ OkB v207 q 2 := E207.facts 10 (by decide)
  have h229 : w.heap.size ≤ q225 := Nat.le_trans HB l227
  have n231 : q173 ≠ q225 := by omega
  obtain ⟨q232, p233, l234, o235⟩ : ∃ q, g207 11 = .pointer (some ⟨q, 0, none⟩) ∧ v196.heap.size ≤ q ∧ OkB v207 q 2 := E207.facts 11 (by decide)
  have h236 : w.heap.size ≤ q232 := Nat.le_trans HB l234
  obtain ⟨t240, x242, A243, m244, c245, e246, b241⟩ := put_info (E207.facts 12 (by decide)) p226 f221.shape
  have f247 : Cz v207 (.agg #[.bool x242, .slice A243 m244 c245]) (fl z ((2 ^ e : Nat) : Int)) := f221.at e246.symm
  obtain ⟨t248, x250, A251, m252, c253, e254, b249⟩ := put_info (E207.facts 13 (by decide)) p233 f222.shape
  refine then_normal ?_
  refine wp_seq ?_
  have HB : w.heap.size ≤ v207.heap.size := T208.size
  refine wp_plan_seq [.val (.cz (fl z ((2 ^ e : Nat) : Int))), .put 4 33, .val (.is (.int .i64 0))] [4] [q173] w.heap.size (by kernel_rfl) (by kernel_rfl) ⟨p174, b212.lt, (by simp), trivial⟩ HB ?_ ?_
  · exact ⟨fun s v h => does_val rfl rfl (x_load_z ((h.same 6 rfl).trans p226) ((h.far q225 b241.lt (nin1 n231.symm)).trans b241)) (f247.mono h.mono),
      fun s v h => does_put_z rfl rfl ((h.same 4 rfl).trans p174) (h.dep 0 rfl).shape (h.mono.ok _ _ b212.ok2) h179,
      fun s v h => does_val rfl rfl (x_assign) rfl, trivial⟩
  intro g256 ts v256 hts E256
  simp only [fillL, Nat.reduceAdd, List.setIfInBounds_toArray, List.set_cons_zero, List.set_cons_succ] at hts
  subst hts
  have T257 : Below w.heap.size w v256 := T208.trans E256.below
  have l258 : q167 < v207.heap.size := b211.lt
  have l259 : q173 < v207.heap.size := b212.lt
  have l260 : q225 < v207.heap.size := b241.lt
  have l261 : q232 < v207.heap.size := b249.lt
  have f275 : Cz v256 (g256 0) (fl z ((2 ^ e : Nat) : Int)) := E256.facts 0 (by decide)
  have e276 : g256 2 = (.int .i64 0) := E256.facts 2 (by decide)
  obtain ⟨t277, x279, A280, m281, c282, e283, b278⟩ := put_info (E256.facts 1 (by decide)) p174 f275.shape
  have f284 : Cz v256 (.agg #[.bool x279, .slice A280 m281 c282]) (fl z ((2 ^ e : Nat) : Int)) := f275.at e283.symm
  refine then_normal ?_
  refine wp_ret ?_
  exact bodyPost_ret (ret_ct rfl p174 b278) rfl ⟨_, rfl, ⟨_, _, rfl, f284, e276⟩, T257⟩

set_option maxHeartbeats 4000000 in
set_option maxRecDepth 8000 in
theorem rshift_a {w : World} {x : Value} {z : Int} {N0 : Nat} (h0 : Az N0 w x z) (hN0 : N0 ≤ 1000000000) {n : Int} (d1 : decide (65536 < n) = true)  : Calls Try.prog 38 #[x, .int .i64 n] w (Ret (.tup2 (.cz 0) (.is (.int .i64 2))) w) := by
  have _u := hN0
  have la0 := h0.len
  obtain ⟨na0, A0, n0, c0, M0, rfl, hm0, hz0⟩ := h0.parts
  have T0 : Below w.heap.size w w := Below.refl _ _
  go_enter Try.func38, Try.ntmps38
  refine wp_seq ?_
  have HB : w.heap.size ≤ w.heap.size := T0.size
  refine wp_plan_seq [.new 2 (some (24, #[.bool na0, .slice A0 n0 c0])), .new 2 (some (24, #[.bool false, .slice none 0 0])), .val (.is (.int .i64 0))] [] [] w.heap.size (by kernel_rfl) (by kernel_rfl) trivial HB ?_ ?_
  · exact ⟨fun s v h => does_new rfl rfl (x_box_z (h.same 0 rfl)) (okz _ _ _ _) rfl (.inr rfl),
      fun s v h => does_new rfl rfl x_alloc_z (okz _ _ _ _) rfl (.inr rfl),
      fun s v h => does_val rfl rfl (x_assign) rfl, trivial⟩
  intro g285 ts v285 hts E285
  simp only [fillL, Nat.reduceAdd, List.setIfInBounds_toArray, List.set_cons_zero, List.set_cons_succ] at hts
  subst hts
  have T286 : Below w.heap.size w v285 := T0.trans E285.below
  obtain ⟨q290, p291, l292, o293, b294⟩ : ∃ q, g285 0 = .pointer (some ⟨q, 0, none⟩) ∧ w.heap.size ≤ q ∧ OkB v285 q 2 ∧ Bx v285 q 24 #[.bool na0, .slice A0 n0 c0] := E285.facts 0 (by decide)
  have h295 : w.heap.size ≤ q290 := Nat.le_trans HB l292
  obtain ⟨q296, p297, l298, o299, b300⟩ : ∃ q, g285 1 = .pointer (some ⟨q, 0, none⟩) ∧ w.heap.size ≤ q ∧ OkB v285 q 2 ∧ Bx v285 q 24 #[.bool false, .slice none 0 0] := E285.facts 1 (by decide)
  have h302 : w.heap.size ≤ q296 := Nat.le_trans HB l298
  refine then_normal ?_
  refine wp_seq ?_
  refine wp_block ?_
  refine wp_seq ?_
  have HB : w.heap.size ≤ v285.heap.size := T286.size
  refine wp_plan_seq [.val (.is (.int .i64 n)), .val (.is (.bool true)), .val (.is (.bool true)), .val (.is undef), .val (.is undef), .val (.is (.bool true)), .val (.is (.bool true))] [] [] w.heap.size (by kernel_rfl) (by kernel_rfl) trivial HB ?_ ?_
  · exact ⟨fun s v h => does_val rfl rfl (x_move) (h.same 1 rfl),
      fun s v h => does_val rfl rfl (x_gtr (h.dep 0 rfl) rfl) (congrArg Value.bool d1),
      fun s v h => does_val rfl rfl (x_move) (h.dep 1 rfl),
      fun s v h => does_skip rfl (wanted_by (b := true) (want := false) rfl rfl (h.dep 2 rfl)) rfl,
      fun s v h => does_skip rfl (wanted_by (b := true) (want := false) rfl rfl (h.dep 2 rfl)) rfl,
      fun s v h => does_val rfl rfl (x_pick (h.dep 2 rfl)) rfl,
      fun s v h => does_val rfl rfl (x_assign) (h.dep 5 rfl), trivial⟩
  intro g304 ts v304 hts E304
  simp only [fillL, Nat.reduceAdd, List.setIfInBounds_toArray, List.set_cons_zero, List.set_cons_succ] at hts
  subst hts
  have T305 : Below w.heap.size w v304 := T286.trans E304.below
  have l306 : q290 < v285.heap.size := b294.lt
  have l307 : q296 < v285.heap.size := b300.lt
  have b308 : Bx v304 q290 24 #[.bool na0, .slice A0 n0 c0] := (E304.far q290 b294.lt (by simp)).trans b294
  have b309 : Bx v304 q296 24 #[.bool false, .slice none 0 0] := (E304.far q296 b300.lt (by simp)).trans b300
  have e319 : g304 6 = (.bool true) := E304.facts 6 (by decide)
  refine then_normal ?_
  refine wp_cond_true e319 ?_
  refine wp_seq ?_
  have HB : w.heap.size ≤ v304.heap.size := T305.size
  refine wp_plan_seq [.val (.is (.agg #[.bool false, .slice none 0 0])), .put 4 15, .val (.is (.int .i64 2))] [4] [q296] w.heap.size (by kernel_rfl) (by kernel_rfl) ⟨p297, b309.lt, (by simp), trivial⟩ HB ?_ ?_
  · exact ⟨fun s v h => does_val rfl rfl x_build0 rfl,
      fun s v h => does_put_z rfl rfl ((h.same 4 rfl).trans p297) ⟨_, _, _, _, (h.dep 0 rfl)⟩ (h.mono.ok _ _ b309.ok2) h302,
      fun s v h => does_val rfl rfl (x_assign) rfl, trivial⟩
  intro g320 ts v320 hts E320
  simp only [fillL, Nat.reduceAdd, List.setIfInBounds_toArray, List.set_cons_zero, List.set_cons_succ] at hts
  subst hts
  have T321 : Below w.heap.size w v320 := T305.trans E320.below
  have l322 : q290 < v304.heap.size := b308.lt
  have l323 : q296 < v304.heap.size := b309.lt
  have e328 : g320 0 = (.agg #[.bool false, .slice none 0 0]) := E320.facts 0 (by decide)
  have e329 : g320 2 = (.int .i64 2) := E320.facts 2 (by decide)
  obtain ⟨t330, b331⟩ := put_lit (E320.facts 1 (by decide)) p297 e328
  have f332 : Cz v320 (.agg #[.bool false, .slice none 0 0]) 0 := cz_zero _
  refine then_normal ?_
  refine wp_ret ?_
  exact bodyPost_ret (ret_ct rfl p297 b331) rfl ⟨_, rfl, ⟨_, _, rfl, f332, e329⟩, T321⟩

set_option maxHeartbeats 4000000 in
set_option maxRecDepth 8000 in
theorem rshift_b {w : World} {x : Value} {z : Int} {N0 : Nat} (h0 : Az N0 w x z) (hN0 : N0 ≤ 1000000000) {n : Int} (d1 : decide (65536 < n) = false) (d2 : decide (n < -65536) = true)  : Calls Try.prog 38 #[x, .int .i64 n] w (Ret (.tup2 (.cz 0) (.is (.int .i64 2))) w) := by
  have _u := hN0
  have la0 := h0.len
  obtain ⟨na0, A0, n0, c0, M0, rfl, hm0, hz0⟩ := h0.parts
  have T0 : Below w.heap.size w w := Below.refl _ _
  go_enter Try.func38, Try.ntmps38
  refine wp_seq ?_
  have HB : w.heap.size ≤ w.heap.size := T0.size
  refine wp_plan_seq [.new 2 (some (24, #[.bool na0, .slice A0 n0 c0])), .new 2 (some (24, #[.bool false, .slice none 0 0])), .val (.is (.int .i64 0))] [] [] w.heap.size (by kernel_rfl) (by kernel_rfl) trivial HB ?_ ?_
  · exact ⟨fun s v h => does_new rfl rfl (x_box_z (h.same 0 rfl)) (okz _ _ _ _) rfl (.inr rfl),
      fun s v h => does_new rfl rfl x_alloc_z (okz _ _ _ _) rfl (.inr rfl),
      fun s v h => does_val rfl rfl (x_assign) rfl, trivial⟩
  intro g333 ts v333 hts E333
  simp only [fillL, Nat.reduceAdd, List.setIfInBounds_toArray, List.set_cons_zero, List.set_cons_succ] at hts
  subst hts
  have T334 : Below w.heap.size w v333 := T0.trans E333.below
  obtain ⟨q338, p339, l340, o341, b342⟩ : ∃ q, g333 0 = .pointer (some ⟨q, 0, none⟩) ∧ w.heap.size ≤ q ∧ OkB v333 q 2 ∧ Bx v333 q 24 #[.bool na0, .slice A0 n0 c0] := E333.facts 0 (by decide)
  have h343 : w.heap.size ≤ q338 := Nat.le_trans HB l340
  obtain ⟨q344, p345, l346, o347, b348⟩ : ∃ q, g333 1 = .pointer (some ⟨q, 0, none⟩) ∧ w.heap.size ≤ q ∧ OkB v333 q 2 ∧ Bx v333 q 24 #[.bool false, .slice none 0 0] := E333.facts 1 (by decide)
  have h350 : w.heap.size ≤ q344 := Nat.le_trans HB l346
  refine then_normal ?_
  refine wp_seq ?_
  refine wp_block ?_
  refine wp_seq ?_
  have HB : w.heap.size ≤ v333.heap.size := T334.size
  refine wp_plan_seq [.val (.is (.int .i64 n)), .val (.is (.bool false)), .val (.is (.bool false)), .val (.is (.int .i64 n)), .val (.is (.bool true)), .val (.is (.bool true)), .val (.is (.bool true))] [] [] w.heap.size (by kernel_rfl) (by kernel_rfl) trivial HB ?_ ?_
  · exact ⟨fun s v h => does_val rfl rfl (x_move) (h.same 1 rfl),
      fun s v h => does_val rfl rfl (x_gtr (h.dep 0 rfl) rfl) (congrArg Value.bool d1),
      fun s v h => does_val rfl rfl (x_move) (h.dep 1 rfl),
      fun s v h => does_val rfl (wanted_by (b := false) (want := false) rfl rfl (h.dep 2 rfl)) (x_move) (h.same 1 rfl),
      fun s v h => does_val rfl (wanted_by (b := false) (want := false) rfl rfl (h.dep 2 rfl)) (x_lss (h.dep 3 rfl) rfl) (congrArg Value.bool d2),
      fun s v h => does_val rfl rfl (x_pick (h.dep 2 rfl)) (h.dep 4 rfl),
      fun s v h => does_val rfl rfl (x_assign) (h.dep 5 rfl), trivial⟩
  intro g352 ts v352 hts E352
  simp only [fillL, Nat.reduceAdd, List.setIfInBounds_toArray, List.set_cons_zero, List.set_cons_succ] at hts
  subst hts
  have T353 : Below w.heap.size w v352 := T334.trans E352.below
  have l354 : q338 < v333.heap.size := b342.lt
  have l355 : q344 < v333.heap.size := b348.lt
  have b356 : Bx v352 q338 24 #[.bool na0, .slice A0 n0 c0] := (E352.far q338 b342.lt (by simp)).trans b342
  have b357 : Bx v352 q344 24 #[.bool false, .slice none 0 0] := (E352.far q344 b348.lt (by simp)).trans b348
  have e367 : g352 6 = (.bool true) := E352.facts 6 (by decide)
  refine then_normal ?_
  refine wp_cond_true e367 ?_
  refine wp_seq ?_
  have HB : w.heap.size ≤ v352.heap.size := T353.size
  refine wp_plan_seq [.val (.is (.agg #[.bool false, .slice none 0 0])), .put 4 15, .val (.is (.int .i64 2))] [4] [q344] w.heap.size (by kernel_rfl) (by kernel_rfl) ⟨p345, b357.lt, (by simp), trivial⟩ HB ?_ ?_
  · exact ⟨fun s v h => does_val rfl rfl x_build0 rfl,
      fun s v h => does_put_z rfl rfl ((h.same 4 rfl).trans p345) ⟨_, _, _, _, (h.dep 0 rfl)⟩ (h.mono.ok _ _ b357.ok2) h350,
      fun s v h => does_val rfl rfl (x_assign) rfl, trivial⟩
  intro g368 ts v368 hts E368
  simp only [fillL, Nat.reduceAdd, List.setIfInBounds_toArray, List.set_cons_zero, List.set_cons_succ] at hts
  subst hts
  have T369 : Below w.heap.size w v368 := T353.trans E368.below
  have l370 : q338 < v352.heap.size := b356.lt
  have l371 : q344 < v352.heap.size := b357.lt
  have e376 : g368 0 = (.agg #[.bool false, .slice none 0 0]) := E368.facts 0 (by decide)
  have e377 : g368 2 = (.int .i64 2) := E368.facts 2 (by decide)
  obtain ⟨t378, b379⟩ := put_lit (E368.facts 1 (by decide)) p345 e376
  have f380 : Cz v368 (.agg #[.bool false, .slice none 0 0]) 0 := cz_zero _
  refine then_normal ?_
  refine wp_ret ?_
  exact bodyPost_ret (ret_ct rfl p345 b379) rfl ⟨_, rfl, ⟨_, _, rfl, f380, e377⟩, T369⟩

set_option maxHeartbeats 4000000 in
set_option maxRecDepth 8000 in
theorem rshift_c {w : World} {x : Value} {z : Int} {N0 : Nat} (h0 : Az N0 w x z) (hN0 : N0 ≤ 1000000000) {e : Nat} (he : e ≤ 65536) (d1 : decide (65536 < (e : Int)) = false) (d2 : decide ((e : Int) < -65536) = false) (d3 : decide (0 ≤ (e : Int)) = true)  : Calls Try.prog 38 #[x, .int .i64 (e : Int)] w (Ret (.tup2 (.cz (z * ((2 ^ e : Nat) : Int))) (.is (.int .i64 0))) w) := by
  have _u := hN0
  have la0 := h0.len
  obtain ⟨na0, A0, n0, c0, M0, rfl, hm0, hz0⟩ := h0.parts
  have T0 : Below w.heap.size w w := Below.refl _ _
  go_enter Try.func38, Try.ntmps38
  refine wp_seq ?_
  have HB : w.heap.size ≤ w.heap.size := T0.size
  refine wp_plan_seq [.new 2 (some (24, #[.bool na0, .slice A0 n0 c0])), .new 2 (some (24, #[.bool false, .slice none 0 0])), .val (.is (.int .i64 0))] [] [] w.heap.size (by kernel_rfl) (by kernel_rfl) trivial HB ?_ ?_
  · exact ⟨fun s v h => does_new rfl rfl (x_box_z (h.same 0 rfl)) (okz _ _ _ _) rfl (.inr rfl),
      fun s v h => does_new rfl rfl x_alloc_z (okz _ _ _ _) rfl (.inr rfl),
      fun s v h => does_val rfl rfl (x_assign) rfl, trivial⟩
  intro g381 ts v381 hts E381
  simp only [fillL, Nat.reduceAdd, List.setIfInBounds_toArray, List.set_cons_zero, List.set_cons_succ] at hts
  subst hts
  have T382 : Below w.heap.size w v381 := T0.trans E381.below
  have f383 := h0.mono E381.mono
  obtain ⟨q386, p387, l388, o389, b390⟩ : ∃ q, g381 0 = .pointer (some ⟨q, 0, none⟩) ∧ w.heap.size ≤ q ∧ OkB v381 q 2 ∧ Bx v381 q 24 #[.bool na0, .slice A0 n0 c0] := E381.facts 0 (by decide)
  have h391 : w.heap.size ≤ q386 := Nat.le_trans HB l388
  obtain ⟨q392, p393, l394, o395, b396⟩ : ∃ q, g381 1 = .pointer (some ⟨q, 0, none⟩) ∧ w.heap.size ≤ q ∧ OkB v381 q 2 ∧ Bx v381 q 24 #[.bool false, .slice none 0 0] := E381.facts 1 (by decide)
  have h398 : w.heap.size ≤ q392 := Nat.le_trans HB l394
  have n399 : q386 ≠ q392 := apart_ne (E381.apart 0 1 (by decide) (by decide) (by decide) ⟨_, _, rfl⟩ ⟨_, _, rfl⟩) p387 p393
  refine then_normal ?_
  refine wp_seq ?_
  refine wp_block ?_
  refine wp_seq ?_
  have HB : w.heap.size ≤ v381.heap.size := T382.size
  refine wp_plan_seq [.val (.is (.int .i64 (e : Int))), .val (.is (.bool false)), .val (.is (.bool false)), .val (.is (.int .i64 (e : Int))), .val (.is (.bool false)), .val (.is (.bool false)), .val (.is (.bool false))] [] [] w.heap.size (by kernel_rfl) (by kernel_rfl) trivial HB ?_ ?_
  · exact ⟨fun s v h => does_val rfl rfl (x_move) (h.same 1 rfl),
      fun s v h => does_val rfl rfl (x_gtr (h.dep 0 rfl) rfl) (congrArg Value.bool d1),
      fun s v h => does_val rfl rfl (x_move) (h.dep 1 rfl),
      fun s v h => does_val rfl (wanted_by (b := false) (want := false) rfl rfl (h.dep 2 rfl)) (x_move) (h.same 1 rfl),
      fun s v h => does_val rfl (wanted_by (b := false) (want := false) rfl rfl (h.dep 2 rfl)) (x_lss (h.dep 3 rfl) rfl) (congrArg Value.bool d2),
      fun s v h => does_val rfl rfl (x_pick (h.dep 2 rfl)) (h.dep 4 rfl),
      fun s v h => does_val rfl rfl (x_assign) (h.dep 5 rfl), trivial⟩
  intro g400 ts v400 hts E400
  simp only [fillL, Nat.reduceAdd, List.setIfInBounds_toArray, List.set_cons_zero, List.set_cons_succ] at hts
  subst hts
  have T401 : Below w.heap.size w v400 := T382.trans E400.below
  have l402 : q386 < v381.heap.size := b390.lt
  have l403 : q392 < v381.heap.size := b396.lt
  have b404 : Bx v400 q386 24 #[.bool na0, .slice A0 n0 c0] := (E400.far q386 b390.lt (by simp)).trans b390
  have b405 : Bx v400 q392 24 #[.bool false, .slice none 0 0] := (E400.far q392 b396.lt (by simp)).trans b396
  have f406 := f383.mono E400.mono
  have e415 : g400 6 = (.bool false) := E400.facts 6 (by decide)
  refine then_normal ?_
  refine wp_cond_false e415 ?_
  refine wp_seq ?_
  have HB : w.heap.size ≤ v400.heap.size := T401.size
  refine wp_plan_seq [.val (.is (.int .i64 (e : Int))), .val (.is (.bool true)), .val (.is (.bool true))] [] [] w.heap.size (by kernel_rfl) (by kernel_rfl) trivial HB ?_ ?_
  · exact ⟨fun s v h => does_val rfl rfl (x_move) (h.same 1 rfl),
      fun s v h => does_val rfl rfl (x_geq (h.dep 0 rfl) rfl) (congrArg Value.bool d3),
      fun s v h => does_val rfl rfl (x_assign) (h.dep 1 rfl), trivial⟩
  intro g416 ts v416 hts E416
  simp only [fillL, Nat.reduceAdd, List.setIfInBounds_toArray, List.set_cons_zero, List.set_cons_succ] at hts
  subst hts
  have T417 : Below w.heap.size w v416 := T401.trans E416.below
  have l418 : q386 < v400.heap.size := b404.lt
  have l419 : q392 < v400.heap.size := b405.lt
  have b420 : Bx v416 q386 24 #[.bool na0, .slice A0 n0 c0] := (E416.far q386 b404.lt (by simp)).trans b404
  have b421 : Bx v416 q392 24 #[.bool false, .slice none 0 0] := (E416.far q392 b405.lt (by simp)).trans b405
  have f422 := f406.mono E416.mono
  have e427 : g416 2 = (.bool true) := E416.facts 2 (by decide)
  refine then_normal ?_
  refine wp_cond_true e427 ?_
  refine wp_seq ?_
  have HB : w.heap.size ≤ v416.heap.size := T417.size
  refine wp_plan_any [.val (.az N0 z), .val (.is (.int .i64 (e : Int))), .val (.cz ((2 ^ e : Nat) : Int)), .val (.cz (z * ((2 ^ e : Nat) : Int))), .put 4 22, .val (.is (.int .i64 0))] [4] [q392] w.heap.size (by kernel_rfl) (by kernel_rfl) (by kernel_rfl) ⟨p393, b421.lt, (by simp), trivial⟩ HB ?_ ?_
  · exact ⟨fun s v h => does_val rfl rfl (x_load_z ((h.same 2 rfl).trans p387) ((h.far q386 b420.lt (nin1 n399)).trans b420)) (f422.mono ((Mono.drew _).trans h.mono)),
      fun s v h => does_val rfl rfl (x_move) (h.same 1 rfl),
      fun s v h => does_call rfl rfl (x_call1 Try.call66) (r2two_k (h.dep 1 rfl) (by omega) (by omega)),
      fun s v h => does_call rfl rfl (x_call2 Try.call71) (r2mul_k (h.dep 0 rfl) ((h.dep 2 rfl).az (N := (e / 32 + 1)) (two_len e)) (by omega)),
      fun s v h => does_put_z rfl rfl ((h.same 4 rfl).trans p393) (h.dep 3 rfl).shape (((Mono.drew _).trans h.mono).ok _ _ b421.ok2) h398,
      fun s v h => does_val rfl rfl (x_assign) rfl, trivial⟩
  intro g428 ts v428 hts E428
  simp only [fillL, Nat.reduceAdd, List.setIfInBounds_toArray, List.set_cons_zero, List.set_cons_succ] at hts
  subst hts
  have T429 : Below w.heap.size w v428 := (below_toDrew T417).trans E428.below
  have l430 : q386 < v416.heap.size := b420.lt
  have l431 : q392 < v416.heap.size := b421.lt
  have f439 : Cz v428 (g428 3) (z * ((2 ^ e : Nat) : Int)) := E428.facts 3 (by decide)
  have e440 : g428 5 = (.int .i64 0) := E428.facts 5 (by decide)
  obtain ⟨t441, x443, A444, m445, c446, e447, b442⟩ := put_info (E428.facts 4 (by decide)) p393 f439.shape
  have f448 : Cz v428 (.agg #[.bool x443, .slice A444 m445 c446]) (z * ((2 ^ e : Nat) : Int)) := f439.at e447.symm
  refine then_normal ?_
  refine wp_ret ?_
  exact bodyPost_ret (ret_ct rfl p393 b442) rfl ⟨_, rfl, ⟨_, _, rfl, f448, e440⟩, T429⟩

set_option maxHeartbeats 4000000 in
set_option maxRecDepth 8000 in
theorem rshift_d {w : World} {x : Value} {z : Int} {N0 : Nat} (h0 : Az N0 w x z) (hN0 : N0 ≤ 1000000000) {e : Nat} (he : e ≤ 65536) (d1 : decide (65536 < -(e : Int)) = false) (d2 : decide (-(e : Int) < -65536) = false) (d3 : decide (0 ≤ -(e : Int)) = false)  : Calls Try.prog 38 #[x, .int .i64 (-(e : Int))] w (Ret (.tup2 (.cz (fl z ((2 ^ e : Nat) : Int))) (.is (.int .i64 0))) w) := by
  have _u := hN0
  have la0 := h0.len
  obtain ⟨na0, A0, n0, c0, M0, rfl, hm0, hz0⟩ := h0.parts
  have T0 : Below w.heap.size w w := Below.refl _ _
  go_enter Try.func38, Try.ntmps38
  refine wp_seq ?_
  have HB : w.heap.size ≤ w.heap.size := T0.size
  refine wp_plan_seq [.new 2 (some (24, #[.bool na0, .slice A0 n0 c0])), .new 2 (some (24, #[.bool false, .slice none 0 0])), .val (.is (.int .i64 0))] [] [] w.heap.size (by kernel_rfl) (by kernel_rfl) trivial HB ?_ ?_
  · exact ⟨fun s v h => does_new rfl rfl (x_box_z (h.same 0 rfl)) (okz _ _ _ _) rfl (.inr rfl),
      fun s v h => does_new rfl rfl x_alloc_z (okz _ _ _ _) rfl (.inr rfl),
      fun s v h => does_val rfl rfl (x_assign) rfl, trivial⟩
  intro g449 ts v449 hts E449
  simp only [fillL, Nat.reduceAdd, List.setIfInBounds_toArray, List.set_cons_zero, List.set_cons_succ] at hts
  subst hts
  have T450 : Below w.heap.size w v449 := T0.trans E449.below
  have f451 := h0.mono E449.mono
  obtain ⟨q454, p455, l456, o457, b458⟩ : ∃ q, g449 0 = .pointer (some ⟨q, 0, none⟩) ∧ w.heap.size ≤ q ∧ OkB v449 q 2 ∧ Bx v449 q 24 #[.bool na0, .slice A0 n0 c0] := E449.facts 0 (by decide)
  have h459 : w.heap.size ≤ q454 := Nat.le_trans HB l456
  obtain ⟨q460, p461, l462, o463, b464⟩ : ∃ q, g449 1 = .pointer (some ⟨q, 0, none⟩) ∧ w.heap.size ≤ q ∧ OkB v449 q 2 ∧ Bx v449 q 24 #[.bool false, .slice none 0 0] := E449.facts 1 (by decide)
  have h466 : w.heap.size ≤ q460 := Nat.le_trans HB l462
  refine then_normal ?_
  refine wp_seq ?_
  refine wp_block ?_
  refine wp_seq ?_
  have HB : w.heap.size ≤ v449.heap.size := T450.size
  refine wp_plan_seq [.val (.is (.int .i64 (-(e : Int)))), .val (.is (.bool false)), .val (.is (.bool false)), .val (.is (.int .i64 (-(e : Int)))), .val (.is (.bool false)), .val (.is (.bool false)), .val (.is (.bool false))] [] [] w.heap.size (by kernel_rfl) (by kernel_rfl) trivial HB ?_ ?_
  · exact ⟨fun s v h => does_val rfl rfl (x_move) (h.same 1 rfl),
      fun s v h => does_val rfl rfl (x_gtr (h.dep 0 rfl) rfl) (congrArg Value.bool d1),
      fun s v h => does_val rfl rfl (x_move) (h.dep 1 rfl),
      fun s v h => does_val rfl (wanted_by (b := false) (want := false) rfl rfl (h.dep 2 rfl)) (x_move) (h.same 1 rfl),
      fun s v h => does_val rfl (wanted_by (b := false) (want := false) rfl rfl (h.dep 2 rfl)) (x_lss (h.dep 3 rfl) rfl) (congrArg Value.bool d2),
      fun s v h => does_val rfl rfl (x_pick (h.dep 2 rfl)) (h.dep 4 rfl),
      fun s v h => does_val rfl rfl (x_assign) (h.dep 5 rfl), trivial⟩
  intro g468 ts v468 hts E468
  simp only [fillL, Nat.reduceAdd, List.setIfInBounds_toArray, List.set_cons_zero, List.set_cons_succ] at hts
  subst hts
  have T469 : Below w.heap.size w v468 := T450.trans E468.below
  have l470 : q454 < v449.heap.size := b458.lt
  have l471 : q460 < v449.heap.size := b464.lt
  have b472 : Bx v468 q454 24 #[.bool na0, .slice A0 n0 c0] := (E468.far q454 b458.lt (by simp)).trans b458
  have b473 : Bx v468 q460 24 #[.bool false, .slice none 0 0] := (E468.far q460 b464.lt (by simp)).trans b464
  have f474 := f451.mono E468.mono
  have e483 : g468 6 = (.bool false) := E468.facts 6 (by decide)
  refine then_normal ?_
  refine wp_cond_false e483 ?_
  refine wp_seq ?_
  have HB : w.heap.size ≤ v468.heap.size := T469.size
  refine wp_plan_seq [.val (.is (.int .i64 (-(e : Int)))), .val (.is (.bool false)), .val (.is (.bool false))] [] [] w.heap.size (by kernel_rfl) (by kernel_rfl) trivial HB ?_ ?_
  · exact ⟨fun s v h => does_val rfl rfl (x_move) (h.same 1 rfl),
      fun s v h => does_val rfl rfl (x_geq (h.dep 0 rfl) rfl) (congrArg Value.bool d3),
      fun s v h => does_val rfl rfl (x_assign) (h.dep 1 rfl), trivial⟩
  intro g484 ts v484 hts E484
  simp only [fillL, Nat.reduceAdd, List.setIfInBounds_toArray, List.set_cons_zero, List.set_cons_succ] at hts
  subst hts
  have T485 : Below w.heap.size w v484 := T469.trans E484.below
  have l486 : q454 < v468.heap.size := b472.lt
  have l487 : q460 < v468.heap.size := b473.lt
  have b488 : Bx v484 q454 24 #[.bool na0, .slice A0 n0 c0] := (E484.far q454 b472.lt (by simp)).trans b472
  have b489 : Bx v484 q460 24 #[.bool false, .slice none 0 0] := (E484.far q460 b473.lt (by simp)).trans b473
  have f490 := f474.mono E484.mono
  have e495 : g484 2 = (.bool false) := E484.facts 2 (by decide)
  refine then_normal ?_
  refine wp_cond_false e495 ?_
  refine wp_skip ?_
  refine block_normal ?_
  refine then_normal ?_
  refine wp_seq ?_
  have HB : w.heap.size ≤ v484.heap.size := T485.size
  refine wp_plan_any [.val (.az N0 z), .val (.is (.int .i64 (-(e : Int)))), .val (.is (.int .i64 (e : Int))), .val (.cz ((2 ^ e : Nat) : Int)), .val (.tup2 (.cz (fl z ((2 ^ e : Nat) : Int))) (.cz (md z ((2 ^ e : Nat) : Int)))), .val (.tup2 (.cz (fl z ((2 ^ e : Nat) : Int))) (.cz (md z ((2 ^ e : Nat) : Int)))), .val (.cz (fl z ((2 ^ e : Nat) : Int))), .val (.cz (md z ((2 ^ e : Nat) : Int))), .new 2 none, .new 2 none, .put 6 29, .put 7 30] [] [] w.heap.size (by kernel_rfl) (by kernel_rfl) (by kernel_rfl) trivial HB ?_ ?_
  · exact ⟨fun s v h => does_val rfl rfl (x_load_z ((h.same 2 rfl).trans p455) ((h.far q454 b488.lt (by simp)).trans b488)) (f490.mono ((Mono.drew _).trans h.mono)),
      fun s v h => does_val rfl rfl (x_move) (h.same 1 rfl),
      fun s v h => does_val rfl rfl (x_neg (h.dep 1 rfl) (by rw [IntKind.wrap_i64]; omega)) (congrArg (Value.int .i64) (Int.neg_neg _)),
      fun s v h => does_call rfl rfl (x_call1 Try.call66) (r2two_k (h.dep 2 rfl) (by omega) (by omega)),
      fun s v h => does_call rfl rfl (x_call2 Try.call29) (r2floor_k (h.dep 0 rfl) ((h.dep 3 rfl).az (N := (e / 32 + 1)) (two_len e)) (by omega) (by omega) (by have := pow_pos2 e; omega)),
      fun s v h => does_val rfl rfl (x_move) (h.dep 4 rfl),
      fun s v h => by obtain ⟨r0, r1, e, f0, f1⟩ := tup2_at (h.dep 5 rfl); exact does_val rfl rfl (x_ext e rfl) f0,
      fun s v h => by obtain ⟨r0, r1, e, f0, f1⟩ := tup2_at (h.dep 5 rfl); exact does_val rfl rfl (x_ext e rfl) f1,
      fun s v h => does_new rfl rfl x_alloc_z (okz _ _ _ _) rfl (.inl rfl),
      fun s v h => does_new rfl rfl x_alloc_z (okz _ _ _ _) rfl (.inl rfl),
      fun s v h => by obtain ⟨q, e1, e2, e3⟩ := new_at (h.dep 8 rfl); exact does_put_z rfl rfl e1 (h.dep 6 rfl).shape e3 (Nat.le_trans HB e2),
      fun s v h => by obtain ⟨q, e1, e2, e3⟩ := new_at (h.dep 9 rfl); exact does_put_z rfl rfl e1 (h.dep 7 rfl).shape e3 (Nat.le_trans HB e2), trivial⟩
  intro g496 ts v496 hts E496
  simp only [fillL, Nat.reduceAdd, List.setIfInBounds_toArray, List.set_cons_zero, List.set_cons_succ] at hts
  subst hts
  have T497 : Below w.heap.size w v496 := (below_toDrew T485).trans E496.below
  have l498 : q454 < v484.heap.size := b488.lt
  have l499 : q460 < v484.heap.size := b489.lt
  have b500 : Bx v496 q454 24 #[.bool na0, .slice A0 n0 c0] := (E496.far q454 b488.lt (by simp)).trans b488
  have b501 : Bx v496 q460 24 #[.bool false, .slice none 0 0] := (E496.far q460 b489.lt (by simp)).trans b489
  have f509 : Cz v496 (g496 6) (fl z ((2 ^ e : Nat) : Int)) := E496.facts 6 (by decide)
  have f510 : Cz v496 (g496 7) (md z ((2 ^ e : Nat) : Int)) := E496.facts 7 (by decide)
  obtain ⟨q511, p512, l513, o514⟩ : ∃ q, g496 8 = .pointer (some ⟨q, 0, none⟩) ∧ v484.heap.size ≤ q ∧ OkB v496 q 2 := E496.facts 8 (by decide)
  have h515 : w.heap.size ≤ q511 := Nat.le_trans HB l513
  have n517 : q460 ≠ q511 := by omega
  obtain ⟨q518, p519, l520, o521⟩ : ∃ q, g496 9 = .pointer (some ⟨q, 0, none⟩) ∧ v484.heap.size ≤ q ∧ OkB v496 q 2 := E496.facts 9 (by decide)
  have h522 : w.heap.size ≤ q518 := Nat.le_trans HB l520
  obtain ⟨t526, x528, A529, m530, c531, e532, b527⟩ := put_info (E496.facts 10 (by decide)) p512 f509.shape
  have f533 : Cz v496 (.agg #[.bool x528, .slice A529 m530 c531]) (fl z ((2 ^ e : Nat) : Int)) := f509.at e532.symm
  obtain ⟨t534, x536, A537, m538, c539, e540, b535⟩ := put_info (E496.facts 11 (by decide)) p519 f510.shape
  refine then_normal ?_
  refine wp_seq ?_
  have HB : w.heap.size ≤ v496.heap.size := T497.size
  refine wp_plan_seq [.val (.cz (fl z ((2 ^ e : Nat) : Int))), .put 4 31, .val (.is (.int .i64 0))] [4] [q460] w.heap.size (by kernel_rfl) (by kernel_rfl) ⟨p461, b501.lt, (by simp), trivial⟩ HB ?_ ?_
  · exact ⟨fun s v h => does_val rfl rfl (x_load_z ((h.same 6 rfl).trans p512) ((h.far q511 b527.lt (nin1 n517.symm)).trans b527)) (f533.mono h.mono),
      fun s v h => does_put_z rfl rfl ((h.same 4 rfl).trans p461) (h.dep 0 rfl).shape (h.mono.ok _ _ b501.ok2) h466,
      fun s v h => does_val rfl rfl (x_assign) rfl, trivial⟩
  intro g542 ts v542 hts E542
  simp only [fillL, Nat.reduceAdd, List.setIfInBounds_toArray, List.set_cons_zero, List.set_cons_succ] at hts
  subst hts
  have T543 : Below w.heap.size w v542 := T497.trans E542.below
  have l544 : q454 < v496.heap.size := b500.lt
  have l545 : q460 < v496.heap.size := b501.lt
  have l546 : q511 < v496.heap.size := b527.lt
  have l547 : q518 < v496.heap.size := b535.lt
  have f560 : Cz v542 (g542 0) (fl z ((2 ^ e : Nat) : Int)) := E542.facts 0 (by decide)
  have e561 : g542 2 = (.int .i64 0) := E542.facts 2 (by decide)
  obtain ⟨t562, x564, A565, m566, c567, e568, b563⟩ := put_info (E542.facts 1 (by decide)) p461 f560.shape
  have f569 : Cz v542 (.agg #[.bool x564, .slice A565 m566 c567]) (fl z ((2 ^ e : Nat) : Int)) := f560.at e568.symm
  refine then_normal ?_
  refine wp_ret ?_
  exact bodyPost_ret (ret_ct rfl p461 b563) rfl ⟨_, rfl, ⟨_, _, rfl, f569, e561⟩, T543⟩

end Go.Proofs.Ytkidgeeedigkhaa
