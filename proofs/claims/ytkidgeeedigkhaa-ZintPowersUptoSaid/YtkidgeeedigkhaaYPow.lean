/- Power and Shift of both. -/
import Derived.Test.YtkidgeeedigkhaaY2
import Derived.Test.YtkidgeeedigkhaaYTop
import Derived.Test.YtkidgeeedigkhaaNumP
import Derived.Test.YtkidgeeedigkhaaLoop
namespace Go.Proofs.Ytkidgeeedigkhaa
open Go.RowKit

theorem does_build_nz {ops : Array Oper} {Q : Exit → Act → World → Prop} {base i : Nat} {a : Act} {w : World} {N M : Nat} {t : Tmp} {d : Option Tmp} {ty : TypeId} {pos : String} {after : Array Edge} {guard : Option (Nat × Bool)}
    (hi : ops[i]? = some ⟨d, .build 24 #[(1, .tmp t)], ty, pos, after, guard⟩) (hg : Region.wanted ⟨d, .build 24 #[(1, .tmp t)], ty, pos, after, guard⟩ (yielded ops a.tmps) = true) (h : Nz N w (Act.vs a t) M) :
    Does Try.prog ops Q base (.val (.az N ((M : Nat) : Int))) i ⟨d, .build 24 #[(1, .tmp t)], ty, pos, after, guard⟩ a w := by
  obtain ⟨A, n, c, l, e, hS, hv, hn⟩ := h
  have e2 : a.eval (.tmp t) = .slice A n c := e
  exact does_val hi hg (x_build1 e2) ⟨false, A, n, c, l, rfl, hS, by rw [hv]; rfl, hn⟩
section
variable {a : Act} {w : World} {d : Option Tmp} {ty : TypeId} {pos : String} {after : Array Edge} {guard : Option (Nat × Bool)}
theorem x_quo {T' : TypeId} {x y : Operand} {m n : Int} (hx : a.eval x = .int .i64 m) (hy : a.eval y = .int .i64 n) (hm : 0 ≤ m) (hm2 : m ≤ 65536) (hn : 0 < n) (hn2 : n < 9223372036854775807) :
    (execOp a.eval ⟨d, .binOp .quo 3 x y T', ty, pos, after, guard⟩).run Try.prog w = .ok (.value (.int .i64 (m / n))) w := by
  have h1 : 0 ≤ m / n := Int.ediv_nonneg hm (by omega)
  have h2 : m / n ≤ m := Int.ediv_le_self _ hm
  simp only [execOp, hx, hy]
  go_simp
  rw [if_neg (by omega), Int.tdiv_eq_ediv_of_nonneg hm, IntKind.wrap_i64]
  congr 3
  omega
theorem i64_and1 (n : Int) : bits .and .i64 n 1 = n % 2 := by
  have h1 : (BitVec.ofInt 64 1).toNat = 2 ^ 1 - 1 := by decide
  have key : (BitVec.ofInt 64 n &&& BitVec.ofInt 64 1).toNat = (n % ((2 ^ 64 : Nat) : Int)).toNat % 2 ^ 1 := by
    rw [BitVec.toNat_and, BitVec.toNat_ofInt, h1, Nat.and_two_pow_sub_one_eq_mod]
  show IntKind.i64.wrap ((BitVec.ofInt 64 n &&& BitVec.ofInt 64 1).toNat : Nat) = n % 2
  rw [key, IntKind.wrap_i64]
  omega
theorem x_and1 {T' : TypeId} {x y : Operand} {m : Int} (hx : a.eval x = .int .i64 m) (hy : a.eval y = .int .i64 1) :
    (execOp a.eval ⟨d, .binOp .and 3 x y T', ty, pos, after, guard⟩).run Try.prog w = .ok (.value (.int .i64 (m % 2))) w := by
  simp only [execOp, hx, hy]
  go_simp
  rw [i64_and1]
theorem x_shr1 {x y : Operand} {m : Int} (hx : a.eval x = .int .i64 m) (hy : a.eval y = .int .u64 1) :
    (execOp a.eval ⟨d, .binOp .shr 3 x y 80, ty, pos, after, guard⟩).run Try.prog w = .ok (.value (.int .i64 (m / 2))) w := by
  simp only [execOp, hx, hy]
  go_simp
theorem x_neg {x : Operand} {m : Int} (hx : a.eval x = .int .i64 m) (h : IntKind.i64.wrap (-m) = -m) :
    (execOp a.eval ⟨d, .unOp .neg 3 x, ty, pos, after, guard⟩).run Try.prog w = .ok (.value (.int .i64 (-m))) w := by
  simp only [execOp, hx]
  go_simp
end

set_option maxHeartbeats 4000000 in
set_option maxRecDepth 8000 in
theorem zpow_a {w : World} {x : Value} {z : Int} {N0 : Nat} (h0 : Az N0 w x z) {n : Int} (d1 : decide (n < 0) = true)  : Calls Try.prog 35 #[x, .int .i64 n] w (Ret (.tup2 (.cz 0) (.is (.int .i64 1))) w) := by
  have la0 := h0.len
  obtain ⟨na0, A0, n0, c0, M0, rfl, hm0, hz0⟩ := h0.parts
  have T0 : Below w.heap.size w w := Below.refl _ _
  go_enter Try.func35, Try.ntmps35
  refine wp_seq ?_
  have HB : w.heap.size ≤ w.heap.size := T0.size
  refine wp_plan_seq [.new 2 (some (24, #[.bool na0, .slice A0 n0 c0])), .new 2 (some (24, #[.bool false, .slice none 0 0])), .val (.is (.int .i64 0))] [] [] w.heap.size (by kernel_rfl) (by kernel_rfl) trivial HB ?_ ?_
  · exact ⟨fun s v h => does_new rfl rfl (x_box_z (h.same 0 rfl)) (okz _ _ _ _) rfl (.inr rfl),
      fun s v h => does_new rfl rfl x_alloc_z (okz _ _ _ _) rfl (.inr rfl),
      fun s v h => does_val rfl rfl (x_assign) rfl, trivial⟩
  intro g1 ts v1 hts E1
  simp only [fillL, Nat.reduceAdd, List.setIfInBounds_toArray, List.set_cons_zero, List.set_cons_succ] at hts
  subst hts
  have T2 : Below w.heap.size w v1 := T0.trans E1.below
  have f3 := h0.mono E1.mono
  have f4 := hm0.mono E1.mono
  have e5 : g1 2 = (.int .i64 0) := E1.facts 2 (by decide)
  obtain ⟨q6, p7, l8, o9, b10⟩ : ∃ q, g1 0 = .pointer (some ⟨q, 0, none⟩) ∧ w.heap.size ≤ q ∧ OkB v1 q 2 ∧ Bx v1 q 24 #[.bool na0, .slice A0 n0 c0] := E1.facts 0 (by decide)
  have h11 : w.heap.size ≤ q6 := Nat.le_trans HB l8
  obtain ⟨q12, p13, l14, o15, b16⟩ : ∃ q, g1 1 = .pointer (some ⟨q, 0, none⟩) ∧ w.heap.size ≤ q ∧ OkB v1 q 2 ∧ Bx v1 q 24 #[.bool false, .slice none 0 0] := E1.facts 1 (by decide)
  have f17 : Cz v1 (.agg #[.bool false, .slice none 0 0]) 0 := cz_zero _
  have h18 : w.heap.size ≤ q12 := Nat.le_trans HB l14
  have n19 : q6 ≠ q12 := apart_ne (E1.apart 0 1 (by decide) (by decide) (by decide) ⟨_, _, rfl⟩ ⟨_, _, rfl⟩) p7 p13
  refine then_normal ?_
  refine wp_seq ?_
  refine wp_seq ?_
  have HB : w.heap.size ≤ v1.heap.size := T2.size
  refine wp_plan_seq [.val (.az N0 z), .val (.is (.int .i64 (blen z.natAbs))), .val (.is (.int .i64 (blen z.natAbs)))] [] [] w.heap.size (by kernel_rfl) (by kernel_rfl) trivial HB ?_ ?_
  · exact ⟨fun s v h => does_val rfl rfl (x_load_z ((h.same 2 rfl).trans p7) ((h.far q6 b10.lt (by simp)).trans b10)) (f3.mono h.mono),
      fun s v h => does_call rfl rfl (x_call1 Try.call20) (zbits_k (h.dep 0 rfl)),
      fun s v h => does_val rfl rfl (x_assign) (h.dep 1 rfl), trivial⟩
  intro g20 ts v20 hts E20
  simp only [fillL, Nat.reduceAdd, List.setIfInBounds_toArray, List.set_cons_zero, List.set_cons_succ] at hts
  subst hts
  have T21 : Below w.heap.size w v20 := T2.trans E20.below
  have l22 : q6 < v1.heap.size := b10.lt
  have l23 : q12 < v1.heap.size := b16.lt
  have b24 : Bx v20 q6 24 #[.bool na0, .slice A0 n0 c0] := (E20.far q6 b10.lt (by simp)).trans b10
  have b25 : Bx v20 q12 24 #[.bool false, .slice none 0 0] := (E20.far q12 b16.lt (by simp)).trans b16
  have f26 := f3.mono E20.mono
  have f27 := f4.mono E20.mono
  have f28 := f17.mono E20.mono
  have f29 : Az N0 v20 (g20 0) z := E20.facts 0 (by decide)
  have e30 : g20 1 = (.int .i64 (blen z.natAbs)) := E20.facts 1 (by decide)
  have e31 : g20 2 = (.int .i64 (blen z.natAbs)) := E20.facts 2 (by decide)
  refine then_normal ?_
  refine wp_block ?_
  refine wp_seq ?_
  have HB : w.heap.size ≤ v20.heap.size := T21.size
  refine wp_plan_seq [.val (.is (.int .i64 n)), .val (.is (.bool true)), .val (.is (.bool true))] [] [] w.heap.size (by kernel_rfl) (by kernel_rfl) trivial HB ?_ ?_
  · exact ⟨fun s v h => does_val rfl rfl (x_move) (h.same 1 rfl),
      fun s v h => does_val rfl rfl (x_lss (h.dep 0 rfl) rfl) (congrArg Value.bool d1),
      fun s v h => does_val rfl rfl (x_assign) (h.dep 1 rfl), trivial⟩
  intro g32 ts v32 hts E32
  simp only [fillL, Nat.reduceAdd, List.setIfInBounds_toArray, List.set_cons_zero, List.set_cons_succ] at hts
  subst hts
  have T33 : Below w.heap.size w v32 := T21.trans E32.below
  have l34 : q6 < v20.heap.size := b24.lt
  have l35 : q12 < v20.heap.size := b25.lt
  have b36 : Bx v32 q6 24 #[.bool na0, .slice A0 n0 c0] := (E32.far q6 b24.lt (by simp)).trans b24
  have b37 : Bx v32 q12 24 #[.bool false, .slice none 0 0] := (E32.far q12 b25.lt (by simp)).trans b25
  have f38 := f26.mono E32.mono
  have f39 := f27.mono E32.mono
  have f40 := f28.mono E32.mono
  have f41 := f29.mono E32.mono
  have e42 : g32 0 = (.int .i64 n) := E32.facts 0 (by decide)
  have e43 : g32 1 = (.bool true) := E32.facts 1 (by decide)
  have e44 : g32 2 = (.bool true) := E32.facts 2 (by decide)
  refine then_normal ?_
  refine wp_cond_true e44 ?_
  refine wp_seq ?_
  have HB : w.heap.size ≤ v32.heap.size := T33.size
  refine wp_plan_seq [.val (.is (.agg #[.bool false, .slice none 0 0])), .put 4 14, .val (.is (.int .i64 1))] [4] [q12] w.heap.size (by kernel_rfl) (by kernel_rfl) ⟨p13, b37.lt, (by simp), trivial⟩ HB ?_ ?_
  · exact ⟨fun s v h => does_val rfl rfl x_build0 rfl,
      fun s v h => does_put_z rfl rfl ((h.same 4 rfl).trans p13) ⟨_, _, _, _, (h.dep 0 rfl)⟩ (h.mono.ok _ _ b37.ok2) h18,
      fun s v h => does_val rfl rfl (x_assign) rfl, trivial⟩
  intro g45 ts v45 hts E45
  simp only [fillL, Nat.reduceAdd, List.setIfInBounds_toArray, List.set_cons_zero, List.set_cons_succ] at hts
  subst hts
  have T46 : Below w.heap.size w v45 := T33.trans E45.below
  have l47 : q6 < v32.heap.size := b36.lt
  have l48 : q12 < v32.heap.size := b37.lt
  have b49 : Bx v45 q6 24 #[.bool na0, .slice A0 n0 c0] := (E45.far q6 b36.lt (nin1 n19)).trans b36
  have f50 := f38.mono E45.mono
  have f51 := f39.mono E45.mono
  have f52 := f40.mono E45.mono
  have f53 := f41.mono E45.mono
  have e54 : g45 0 = (.agg #[.bool false, .slice none 0 0]) := E45.facts 0 (by decide)
  have e55 : g45 2 = (.int .i64 1) := E45.facts 2 (by decide)
  obtain ⟨t56, b57⟩ := put_lit (E45.facts 1 (by decide)) p13 e54
  have f58 : Cz v45 (.agg #[.bool false, .slice none 0 0]) 0 := cz_zero _
  refine then_normal ?_
  refine wp_ret ?_
  exact bodyPost_ret (ret_ct rfl p13 b57) rfl ⟨_, rfl, ⟨_, _, rfl, f58, e55⟩, T46⟩

set_option maxHeartbeats 4000000 in
set_option maxRecDepth 8000 in
theorem zpow_b {w : World} {x : Value} {z : Int} {N0 : Nat} (h0 : Az N0 w x z) {n : Int} (hN0 : N0 ≤ 1000000000) (d1 : decide (n < 0) = false) (d2 : decide ((0 : Int) < (blen z.natAbs : Int)) = true) (d3 : decide ((65536 / (blen z.natAbs : Int)) < n) = true)  : Calls Try.prog 35 #[x, .int .i64 n] w (Ret (.tup2 (.cz 0) (.is (.int .i64 2))) w) := by
  have _u := hN0
  have la0 := h0.len
  obtain ⟨na0, A0, n0, c0, M0, rfl, hm0, hz0⟩ := h0.parts
  have hbl := blen_bits la0
  have T0 : Below w.heap.size w w := Below.refl _ _
  go_enter Try.func35, Try.ntmps35
  refine wp_seq ?_
  have HB : w.heap.size ≤ w.heap.size := T0.size
  refine wp_plan_seq [.new 2 (some (24, #[.bool na0, .slice A0 n0 c0])), .new 2 (some (24, #[.bool false, .slice none 0 0])), .val (.is (.int .i64 0))] [] [] w.heap.size (by kernel_rfl) (by kernel_rfl) trivial HB ?_ ?_
  · exact ⟨fun s v h => does_new rfl rfl (x_box_z (h.same 0 rfl)) (okz _ _ _ _) rfl (.inr rfl),
      fun s v h => does_new rfl rfl x_alloc_z (okz _ _ _ _) rfl (.inr rfl),
      fun s v h => does_val rfl rfl (x_assign) rfl, trivial⟩
  intro g59 ts v59 hts E59
  simp only [fillL, Nat.reduceAdd, List.setIfInBounds_toArray, List.set_cons_zero, List.set_cons_succ] at hts
  subst hts
  have T60 : Below w.heap.size w v59 := T0.trans E59.below
  have f61 := h0.mono E59.mono
  have f62 := hm0.mono E59.mono
  have e63 : g59 2 = (.int .i64 0) := E59.facts 2 (by decide)
  obtain ⟨q64, p65, l66, o67, b68⟩ : ∃ q, g59 0 = .pointer (some ⟨q, 0, none⟩) ∧ w.heap.size ≤ q ∧ OkB v59 q 2 ∧ Bx v59 q 24 #[.bool na0, .slice A0 n0 c0] := E59.facts 0 (by decide)
  have h69 : w.heap.size ≤ q64 := Nat.le_trans HB l66
  obtain ⟨q70, p71, l72, o73, b74⟩ : ∃ q, g59 1 = .pointer (some ⟨q, 0, none⟩) ∧ w.heap.size ≤ q ∧ OkB v59 q 2 ∧ Bx v59 q 24 #[.bool false, .slice none 0 0] := E59.facts 1 (by decide)
  have f75 : Cz v59 (.agg #[.bool false, .slice none 0 0]) 0 := cz_zero _
  have h76 : w.heap.size ≤ q70 := Nat.le_trans HB l72
  have n77 : q64 ≠ q70 := apart_ne (E59.apart 0 1 (by decide) (by decide) (by decide) ⟨_, _, rfl⟩ ⟨_, _, rfl⟩) p65 p71
  refine then_normal ?_
  refine wp_seq ?_
  refine wp_seq ?_
  have HB : w.heap.size ≤ v59.heap.size := T60.size
  refine wp_plan_seq [.val (.az N0 z), .val (.is (.int .i64 (blen z.natAbs))), .val (.is (.int .i64 (blen z.natAbs)))] [] [] w.heap.size (by kernel_rfl) (by kernel_rfl) trivial HB ?_ ?_
  · exact ⟨fun s v h => does_val rfl rfl (x_load_z ((h.same 2 rfl).trans p65) ((h.far q64 b68.lt (by simp)).trans b68)) (f61.mono h.mono),
      fun s v h => does_call rfl rfl (x_call1 Try.call20) (zbits_k (h.dep 0 rfl)),
      fun s v h => does_val rfl rfl (x_assign) (h.dep 1 rfl), trivial⟩
  intro g78 ts v78 hts E78
  simp only [fillL, Nat.reduceAdd, List.setIfInBounds_toArray, List.set_cons_zero, List.set_cons_succ] at hts
  subst hts
  have T79 : Below w.heap.size w v78 := T60.trans E78.below
  have l80 : q64 < v59.heap.size := b68.lt
  have l81 : q70 < v59.heap.size := b74.lt
  have b82 : Bx v78 q64 24 #[.bool na0, .slice A0 n0 c0] := (E78.far q64 b68.lt (by simp)).trans b68
  have b83 : Bx v78 q70 24 #[.bool false, .slice none 0 0] := (E78.far q70 b74.lt (by simp)).trans b74
  have f84 := f61.mono E78.mono
  have f85 := f62.mono E78.mono
  have f86 := f75.mono E78.mono
  have f87 : Az N0 v78 (g78 0) z := E78.facts 0 (by decide)
  have e88 : g78 1 = (.int .i64 (blen z.natAbs)) := E78.facts 1 (by decide)
  have e89 : g78 2 = (.int .i64 (blen z.natAbs)) := E78.facts 2 (by decide)
  refine then_normal ?_
  refine wp_block ?_
  refine wp_seq ?_
  have HB : w.heap.size ≤ v78.heap.size := T79.size
  refine wp_plan_seq [.val (.is (.int .i64 n)), .val (.is (.bool false)), .val (.is (.bool false))] [] [] w.heap.size (by kernel_rfl) (by kernel_rfl) trivial HB ?_ ?_
  · exact ⟨fun s v h => does_val rfl rfl (x_move) (h.same 1 rfl),
      fun s v h => does_val rfl rfl (x_lss (h.dep 0 rfl) rfl) (congrArg Value.bool d1),
      fun s v h => does_val rfl rfl (x_assign) (h.dep 1 rfl), trivial⟩
  intro g90 ts v90 hts E90
  simp only [fillL, Nat.reduceAdd, List.setIfInBounds_toArray, List.set_cons_zero, List.set_cons_succ] at hts
  subst hts
  have T91 : Below w.heap.size w v90 := T79.trans E90.below
  have l92 : q64 < v78.heap.size := b82.lt
  have l93 : q70 < v78.heap.size := b83.lt
  have b94 : Bx v90 q64 24 #[.bool na0, .slice A0 n0 c0] := (E90.far q64 b82.lt (by simp)).trans b82
  have b95 : Bx v90 q70 24 #[.bool false, .slice none 0 0] := (E90.far q70 b83.lt (by simp)).trans b83
  have f96 := f84.mono E90.mono
  have f97 := f85.mono E90.mono
  have f98 := f86.mono E90.mono
  have f99 := f87.mono E90.mono
  have e100 : g90 0 = (.int .i64 n) := E90.facts 0 (by decide)
  have e101 : g90 1 = (.bool false) := E90.facts 1 (by decide)
  have e102 : g90 2 = (.bool false) := E90.facts 2 (by decide)
  refine then_normal ?_
  refine wp_cond_false e102 ?_
  refine wp_seq ?_
  have HB : w.heap.size ≤ v90.heap.size := T91.size
  refine wp_plan_seq [.val (.is (.int .i64 (blen z.natAbs))), .val (.is (.bool true)), .val (.is (.bool true)), .val (.is (.int .i64 n)), .val (.is (.int .i64 (blen z.natAbs))), .val (.is (.int .i64 (65536 / (blen z.natAbs : Int)))), .val (.is (.bool true)), .val (.is (.bool true)), .val (.is (.bool true))] [] [] w.heap.size (by kernel_rfl) (by kernel_rfl) trivial HB ?_ ?_
  · exact ⟨fun s v h => does_val rfl rfl (x_move) ((h.same 6 rfl).trans e89),
      fun s v h => does_val rfl rfl (x_gtr (h.dep 0 rfl) rfl) (congrArg Value.bool d2),
      fun s v h => does_val rfl rfl (x_move) (h.dep 1 rfl),
      fun s v h => does_val rfl (wanted_by (b := true) (want := true) rfl rfl (h.dep 2 rfl)) (x_move) (h.same 1 rfl),
      fun s v h => does_val rfl (wanted_by (b := true) (want := true) rfl rfl (h.dep 2 rfl)) (x_move) ((h.same 6 rfl).trans e89),
      fun s v h => does_val rfl (wanted_by (b := true) (want := true) rfl rfl (h.dep 2 rfl)) (x_quo rfl (h.dep 4 rfl) (by decide) (by decide) (by have := of_decide_eq_true d2; omega) (by omega)) rfl,
      fun s v h => does_val rfl (wanted_by (b := true) (want := true) rfl rfl (h.dep 2 rfl)) (x_gtr (h.dep 3 rfl) (h.dep 5 rfl)) (congrArg Value.bool d3),
      fun s v h => does_val rfl rfl (x_pick (h.dep 2 rfl)) (h.dep 6 rfl),
      fun s v h => does_val rfl rfl (x_assign) (h.dep 7 rfl), trivial⟩
  intro g103 ts v103 hts E103
  simp only [fillL, Nat.reduceAdd, List.setIfInBounds_toArray, List.set_cons_zero, List.set_cons_succ] at hts
  subst hts
  have T104 : Below w.heap.size w v103 := T91.trans E103.below
  have l105 : q64 < v90.heap.size := b94.lt
  have l106 : q70 < v90.heap.size := b95.lt
  have b107 : Bx v103 q64 24 #[.bool na0, .slice A0 n0 c0] := (E103.far q64 b94.lt (by simp)).trans b94
  have b108 : Bx v103 q70 24 #[.bool false, .slice none 0 0] := (E103.far q70 b95.lt (by simp)).trans b95
  have f109 := f96.mono E103.mono
  have f110 := f97.mono E103.mono
  have f111 := f98.mono E103.mono
  have f112 := f99.mono E103.mono
  have e113 : g103 0 = (.int .i64 (blen z.natAbs)) := E103.facts 0 (by decide)
  have e114 : g103 1 = (.bool true) := E103.facts 1 (by decide)
  have e115 : g103 2 = (.bool true) := E103.facts 2 (by decide)
  have e116 : g103 3 = (.int .i64 n) := E103.facts 3 (by decide)
  have e117 : g103 4 = (.int .i64 (blen z.natAbs)) := E103.facts 4 (by decide)
  have e118 : g103 5 = (.int .i64 (65536 / (blen z.natAbs : Int))) := E103.facts 5 (by decide)
  have e119 : g103 6 = (.bool true) := E103.facts 6 (by decide)
  have e120 : g103 7 = (.bool true) := E103.facts 7 (by decide)
  have e121 : g103 8 = (.bool true) := E103.facts 8 (by decide)
  refine then_normal ?_
  refine wp_cond_true e121 ?_
  refine wp_seq ?_
  have HB : w.heap.size ≤ v103.heap.size := T104.size
  refine wp_plan_seq [.val (.is (.agg #[.bool false, .slice none 0 0])), .put 4 24, .val (.is (.int .i64 2))] [4] [q70] w.heap.size (by kernel_rfl) (by kernel_rfl) ⟨p71, b108.lt, (by simp), trivial⟩ HB ?_ ?_
  · exact ⟨fun s v h => does_val rfl rfl x_build0 rfl,
      fun s v h => does_put_z rfl rfl ((h.same 4 rfl).trans p71) ⟨_, _, _, _, (h.dep 0 rfl)⟩ (h.mono.ok _ _ b108.ok2) h76,
      fun s v h => does_val rfl rfl (x_assign) rfl, trivial⟩
  intro g122 ts v122 hts E122
  simp only [fillL, Nat.reduceAdd, List.setIfInBounds_toArray, List.set_cons_zero, List.set_cons_succ] at hts
  subst hts
  have T123 : Below w.heap.size w v122 := T104.trans E122.below
  have l124 : q64 < v103.heap.size := b107.lt
  have l125 : q70 < v103.heap.size := b108.lt
  have b126 : Bx v122 q64 24 #[.bool na0, .slice A0 n0 c0] := (E122.far q64 b107.lt (nin1 n77)).trans b107
  have f127 := f109.mono E122.mono
  have f128 := f110.mono E122.mono
  have f129 := f111.mono E122.mono
  have f130 := f112.mono E122.mono
  have e131 : g122 0 = (.agg #[.bool false, .slice none 0 0]) := E122.facts 0 (by decide)
  have e132 : g122 2 = (.int .i64 2) := E122.facts 2 (by decide)
  obtain ⟨t133, b134⟩ := put_lit (E122.facts 1 (by decide)) p71 e131
  have f135 : Cz v122 (.agg #[.bool false, .slice none 0 0]) 0 := cz_zero _
  refine then_normal ?_
  refine wp_ret ?_
  exact bodyPost_ret (ret_ct rfl p71 b134) rfl ⟨_, rfl, ⟨_, _, rfl, f135, e132⟩, T123⟩

set_option maxHeartbeats 4000000 in
set_option maxRecDepth 8000 in
theorem zpow_c {w : World} {x : Value} {z : Int} {N0 : Nat} (h0 : Az N0 w x z) {n : Int} (hN0 : N0 ≤ 1000000000) (d1 : decide (n < 0) = false) (d2 : decide ((0 : Int) < (blen z.natAbs : Int)) = true) (d3 : decide ((65536 / (blen z.natAbs : Int)) < n) = false) (d4 : (n == 0) = true)  : Calls Try.prog 35 #[x, .int .i64 n] w (Ret (.tup2 (.cz 1) (.is (.int .i64 0))) w) := by
  have _u := hN0
  have la0 := h0.len
  obtain ⟨na0, A0, n0, c0, M0, rfl, hm0, hz0⟩ := h0.parts
  have hbl := blen_bits la0
  have T0 : Below w.heap.size w w := Below.refl _ _
  go_enter Try.func35, Try.ntmps35
  refine wp_seq ?_
  have HB : w.heap.size ≤ w.heap.size := T0.size
  refine wp_plan_seq [.new 2 (some (24, #[.bool na0, .slice A0 n0 c0])), .new 2 (some (24, #[.bool false, .slice none 0 0])), .val (.is (.int .i64 0))] [] [] w.heap.size (by kernel_rfl) (by kernel_rfl) trivial HB ?_ ?_
  · exact ⟨fun s v h => does_new rfl rfl (x_box_z (h.same 0 rfl)) (okz _ _ _ _) rfl (.inr rfl),
      fun s v h => does_new rfl rfl x_alloc_z (okz _ _ _ _) rfl (.inr rfl),
      fun s v h => does_val rfl rfl (x_assign) rfl, trivial⟩
  intro g136 ts v136 hts E136
  simp only [fillL, Nat.reduceAdd, List.setIfInBounds_toArray, List.set_cons_zero, List.set_cons_succ] at hts
  subst hts
  have T137 : Below w.heap.size w v136 := T0.trans E136.below
  have f138 := h0.mono E136.mono
  have f139 := hm0.mono E136.mono
  have e140 : g136 2 = (.int .i64 0) := E136.facts 2 (by decide)
  obtain ⟨q141, p142, l143, o144, b145⟩ : ∃ q, g136 0 = .pointer (some ⟨q, 0, none⟩) ∧ w.heap.size ≤ q ∧ OkB v136 q 2 ∧ Bx v136 q 24 #[.bool na0, .slice A0 n0 c0] := E136.facts 0 (by decide)
  have h146 : w.heap.size ≤ q141 := Nat.le_trans HB l143
  obtain ⟨q147, p148, l149, o150, b151⟩ : ∃ q, g136 1 = .pointer (some ⟨q, 0, none⟩) ∧ w.heap.size ≤ q ∧ OkB v136 q 2 ∧ Bx v136 q 24 #[.bool false, .slice none 0 0] := E136.facts 1 (by decide)
  have f152 : Cz v136 (.agg #[.bool false, .slice none 0 0]) 0 := cz_zero _
  have h153 : w.heap.size ≤ q147 := Nat.le_trans HB l149
  have n154 : q141 ≠ q147 := apart_ne (E136.apart 0 1 (by decide) (by decide) (by decide) ⟨_, _, rfl⟩ ⟨_, _, rfl⟩) p142 p148
  refine then_normal ?_
  refine wp_seq ?_
  refine wp_seq ?_
  have HB : w.heap.size ≤ v136.heap.size := T137.size
  refine wp_plan_seq [.val (.az N0 z), .val (.is (.int .i64 (blen z.natAbs))), .val (.is (.int .i64 (blen z.natAbs)))] [] [] w.heap.size (by kernel_rfl) (by kernel_rfl) trivial HB ?_ ?_
  · exact ⟨fun s v h => does_val rfl rfl (x_load_z ((h.same 2 rfl).trans p142) ((h.far q141 b145.lt (by simp)).trans b145)) (f138.mono h.mono),
      fun s v h => does_call rfl rfl (x_call1 Try.call20) (zbits_k (h.dep 0 rfl)),
      fun s v h => does_val rfl rfl (x_assign) (h.dep 1 rfl), trivial⟩
  intro g155 ts v155 hts E155
  simp only [fillL, Nat.reduceAdd, List.setIfInBounds_toArray, List.set_cons_zero, List.set_cons_succ] at hts
  subst hts
  have T156 : Below w.heap.size w v155 := T137.trans E155.below
  have l157 : q141 < v136.heap.size := b145.lt
  have l158 : q147 < v136.heap.size := b151.lt
  have b159 : Bx v155 q141 24 #[.bool na0, .slice A0 n0 c0] := (E155.far q141 b145.lt (by simp)).trans b145
  have b160 : Bx v155 q147 24 #[.bool false, .slice none 0 0] := (E155.far q147 b151.lt (by simp)).trans b151
  have f161 := f138.mono E155.mono
  have f162 := f139.mono E155.mono
  have f163 := f152.mono E155.mono
  have f164 : Az N0 v155 (g155 0) z := E155.facts 0 (by decide)
  have e165 : g155 1 = (.int .i64 (blen z.natAbs)) := E155.facts 1 (by decide)
  have e166 : g155 2 = (.int .i64 (blen z.natAbs)) := E155.facts 2 (by decide)
  refine then_normal ?_
  refine wp_block ?_
  refine wp_seq ?_
  have HB : w.heap.size ≤ v155.heap.size := T156.size
  refine wp_plan_seq [.val (.is (.int .i64 n)), .val (.is (.bool false)), .val (.is (.bool false))] [] [] w.heap.size (by kernel_rfl) (by kernel_rfl) trivial HB ?_ ?_
  · exact ⟨fun s v h => does_val rfl rfl (x_move) (h.same 1 rfl),
      fun s v h => does_val rfl rfl (x_lss (h.dep 0 rfl) rfl) (congrArg Value.bool d1),
      fun s v h => does_val rfl rfl (x_assign) (h.dep 1 rfl), trivial⟩
  intro g167 ts v167 hts E167
  simp only [fillL, Nat.reduceAdd, List.setIfInBounds_toArray, List.set_cons_zero, List.set_cons_succ] at hts
  subst hts
  have T168 : Below w.heap.size w v167 := T156.trans E167.below
  have l169 : q141 < v155.heap.size := b159.lt
  have l170 : q147 < v155.heap.size := b160.lt
  have b171 : Bx v167 q141 24 #[.bool na0, .slice A0 n0 c0] := (E167.far q141 b159.lt (by simp)).trans b159
  have b172 : Bx v167 q147 24 #[.bool false, .slice none 0 0] := (E167.far q147 b160.lt (by simp)).trans b160
  have f173 := f161.mono E167.mono
  have f174 := f162.mono E167.mono
  have f175 := f163.mono E167.mono
  have f176 := f164.mono E167.mono
  have e177 : g167 0 = (.int .i64 n) := E167.facts 0 (by decide)
  have e178 : g167 1 = (.bool false) := E167.facts 1 (by decide)
  have e179 : g167 2 = (.bool false) := E167.facts 2 (by decide)
  refine then_normal ?_
  refine wp_cond_false e179 ?_
  refine wp_seq ?_
  have HB : w.heap.size ≤ v167.heap.size := T168.size
  refine wp_plan_seq [.val (.is (.int .i64 (blen z.natAbs))), .val (.is (.bool true)), .val (.is (.bool true)), .val (.is (.int .i64 n)), .val (.is (.int .i64 (blen z.natAbs))), .val (.is (.int .i64 (65536 / (blen z.natAbs : Int)))), .val (.is (.bool false)), .val (.is (.bool false)), .val (.is (.bool false))] [] [] w.heap.size (by kernel_rfl) (by kernel_rfl) trivial HB ?_ ?_
  · exact ⟨fun s v h => does_val rfl rfl (x_move) ((h.same 6 rfl).trans e166),
      fun s v h => does_val rfl rfl (x_gtr (h.dep 0 rfl) rfl) (congrArg Value.bool d2),
      fun s v h => does_val rfl rfl (x_move) (h.dep 1 rfl),
      fun s v h => does_val rfl (wanted_by (b := true) (want := true) rfl rfl (h.dep 2 rfl)) (x_move) (h.same 1 rfl),
      fun s v h => does_val rfl (wanted_by (b := true) (want := true) rfl rfl (h.dep 2 rfl)) (x_move) ((h.same 6 rfl).trans e166),
      fun s v h => does_val rfl (wanted_by (b := true) (want := true) rfl rfl (h.dep 2 rfl)) (x_quo rfl (h.dep 4 rfl) (by decide) (by decide) (by have := of_decide_eq_true d2; omega) (by omega)) rfl,
      fun s v h => does_val rfl (wanted_by (b := true) (want := true) rfl rfl (h.dep 2 rfl)) (x_gtr (h.dep 3 rfl) (h.dep 5 rfl)) (congrArg Value.bool d3),
      fun s v h => does_val rfl rfl (x_pick (h.dep 2 rfl)) (h.dep 6 rfl),
      fun s v h => does_val rfl rfl (x_assign) (h.dep 7 rfl), trivial⟩
  intro g180 ts v180 hts E180
  simp only [fillL, Nat.reduceAdd, List.setIfInBounds_toArray, List.set_cons_zero, List.set_cons_succ] at hts
  subst hts
  have T181 : Below w.heap.size w v180 := T168.trans E180.below
  have l182 : q141 < v167.heap.size := b171.lt
  have l183 : q147 < v167.heap.size := b172.lt
  have b184 : Bx v180 q141 24 #[.bool na0, .slice A0 n0 c0] := (E180.far q141 b171.lt (by simp)).trans b171
  have b185 : Bx v180 q147 24 #[.bool false, .slice none 0 0] := (E180.far q147 b172.lt (by simp)).trans b172
  have f186 := f173.mono E180.mono
  have f187 := f174.mono E180.mono
  have f188 := f175.mono E180.mono
  have f189 := f176.mono E180.mono
  have e190 : g180 0 = (.int .i64 (blen z.natAbs)) := E180.facts 0 (by decide)
  have e191 : g180 1 = (.bool true) := E180.facts 1 (by decide)
  have e192 : g180 2 = (.bool true) := E180.facts 2 (by decide)
  have e193 : g180 3 = (.int .i64 n) := E180.facts 3 (by decide)
  have e194 : g180 4 = (.int .i64 (blen z.natAbs)) := E180.facts 4 (by decide)
  have e195 : g180 5 = (.int .i64 (65536 / (blen z.natAbs : Int))) := E180.facts 5 (by decide)
  have e196 : g180 6 = (.bool false) := E180.facts 6 (by decide)
  have e197 : g180 7 = (.bool false) := E180.facts 7 (by decide)
  have e198 : g180 8 = (.bool false) := E180.facts 8 (by decide)
  refine then_normal ?_
  refine wp_cond_false e198 ?_
  refine wp_seq ?_
  have HB : w.heap.size ≤ v180.heap.size := T181.size
  refine wp_plan_seq [.val (.is (.int .i64 n)), .val (.is (.bool true)), .val (.is (.bool true))] [] [] w.heap.size (by kernel_rfl) (by kernel_rfl) trivial HB ?_ ?_
  · exact ⟨fun s v h => does_val rfl rfl (x_move) (h.same 1 rfl),
      fun s v h => does_val rfl rfl (x_eql_int (h.dep 0 rfl) rfl) (congrArg Value.bool d4),
      fun s v h => does_val rfl rfl (x_assign) (h.dep 1 rfl), trivial⟩
  intro g199 ts v199 hts E199
  simp only [fillL, Nat.reduceAdd, List.setIfInBounds_toArray, List.set_cons_zero, List.set_cons_succ] at hts
  subst hts
  have T200 : Below w.heap.size w v199 := T181.trans E199.below
  have l201 : q141 < v180.heap.size := b184.lt
  have l202 : q147 < v180.heap.size := b185.lt
  have b203 : Bx v199 q141 24 #[.bool na0, .slice A0 n0 c0] := (E199.far q141 b184.lt (by simp)).trans b184
  have b204 : Bx v199 q147 24 #[.bool false, .slice none 0 0] := (E199.far q147 b185.lt (by simp)).trans b185
  have f205 := f186.mono E199.mono
  have f206 := f187.mono E199.mono
  have f207 := f188.mono E199.mono
  have f208 := f189.mono E199.mono
  have e209 : g199 0 = (.int .i64 n) := E199.facts 0 (by decide)
  have e210 : g199 1 = (.bool true) := E199.facts 1 (by decide)
  have e211 : g199 2 = (.bool true) := E199.facts 2 (by decide)
  refine then_normal ?_
  refine wp_cond_true e211 ?_
  refine wp_seq ?_
  have HB : w.heap.size ≤ v199.heap.size := T200.size
  refine wp_plan_seq [.val (.cz 1), .put 4 28, .val (.is (.int .i64 0))] [4] [q147] w.heap.size (by kernel_rfl) (by kernel_rfl) ⟨p148, b204.lt, (by simp), trivial⟩ HB ?_ ?_
  · exact ⟨fun s v h => does_call rfl rfl (x_call1 Try.call42) (of_k rfl (by decide) (by decide)),
      fun s v h => does_put_z rfl rfl ((h.same 4 rfl).trans p148) (h.dep 0 rfl).shape (h.mono.ok _ _ b204.ok2) h153,
      fun s v h => does_val rfl rfl (x_assign) rfl, trivial⟩
  intro g212 ts v212 hts E212
  simp only [fillL, Nat.reduceAdd, List.setIfInBounds_toArray, List.set_cons_zero, List.set_cons_succ] at hts
  subst hts
  have T213 : Below w.heap.size w v212 := T200.trans E212.below
  have l214 : q141 < v199.heap.size := b203.lt
  have l215 : q147 < v199.heap.size := b204.lt
  have b216 : Bx v212 q141 24 #[.bool na0, .slice A0 n0 c0] := (E212.far q141 b203.lt (nin1 n154)).trans b203
  have f217 := f205.mono E212.mono
  have f218 := f206.mono E212.mono
  have f219 := f207.mono E212.mono
  have f220 := f208.mono E212.mono
  have f221 : Cz v212 (g212 0) 1 := E212.facts 0 (by decide)
  have e222 : g212 2 = (.int .i64 0) := E212.facts 2 (by decide)
  obtain ⟨t223, x225, A226, m227, c228, e229, b224⟩ := put_info (E212.facts 1 (by decide)) p148 f221.shape
  have f230 : Cz v212 (.agg #[.bool x225, .slice A226 m227 c228]) 1 := f221.at e229.symm
  refine then_normal ?_
  refine wp_ret ?_
  exact bodyPost_ret (ret_ct rfl p148 b224) rfl ⟨_, rfl, ⟨_, _, rfl, f230, e222⟩, T213⟩

set_option maxHeartbeats 4000000 in
set_option maxRecDepth 8000 in
theorem zpow_d {w : World} {x : Value} {z : Int} {N0 : Nat} (h0 : Az N0 w x z) {n : Int} (d1 : decide (n < 0) = false) (d2 : decide ((0 : Int) < (blen z.natAbs : Int)) = false) (d4 : (n == 0) = true)  : Calls Try.prog 35 #[x, .int .i64 n] w (Ret (.tup2 (.cz 1) (.is (.int .i64 0))) w) := by
  have la0 := h0.len
  obtain ⟨na0, A0, n0, c0, M0, rfl, hm0, hz0⟩ := h0.parts
  have T0 : Below w.heap.size w w := Below.refl _ _
  go_enter Try.func35, Try.ntmps35
  refine wp_seq ?_
  have HB : w.heap.size ≤ w.heap.size := T0.size
  refine wp_plan_seq [.new 2 (some (24, #[.bool na0, .slice A0 n0 c0])), .new 2 (some (24, #[.bool false, .slice none 0 0])), .val (.is (.int .i64 0))] [] [] w.heap.size (by kernel_rfl) (by kernel_rfl) trivial HB ?_ ?_
  · exact ⟨fun s v h => does_new rfl rfl (x_box_z (h.same 0 rfl)) (okz _ _ _ _) rfl (.inr rfl),
      fun s v h => does_new rfl rfl x_alloc_z (okz _ _ _ _) rfl (.inr rfl),
      fun s v h => does_val rfl rfl (x_assign) rfl, trivial⟩
  intro g231 ts v231 hts E231
  simp only [fillL, Nat.reduceAdd, List.setIfInBounds_toArray, List.set_cons_zero, List.set_cons_succ] at hts
  subst hts
  have T232 : Below w.heap.size w v231 := T0.trans E231.below
  have f233 := h0.mono E231.mono
  have f234 := hm0.mono E231.mono
  have e235 : g231 2 = (.int .i64 0) := E231.facts 2 (by decide)
  obtain ⟨q236, p237, l238, o239, b240⟩ : ∃ q, g231 0 = .pointer (some ⟨q, 0, none⟩) ∧ w.heap.size ≤ q ∧ OkB v231 q 2 ∧ Bx v231 q 24 #[.bool na0, .slice A0 n0 c0] := E231.facts 0 (by decide)
  have h241 : w.heap.size ≤ q236 := Nat.le_trans HB l238
  obtain ⟨q242, p243, l244, o245, b246⟩ : ∃ q, g231 1 = .pointer (some ⟨q, 0, none⟩) ∧ w.heap.size ≤ q ∧ OkB v231 q 2 ∧ Bx v231 q 24 #[.bool false, .slice none 0 0] := E231.facts 1 (by decide)
  have f247 : Cz v231 (.agg #[.bool false, .slice none 0 0]) 0 := cz_zero _
  have h248 : w.heap.size ≤ q242 := Nat.le_trans HB l244
  have n249 : q236 ≠ q242 := apart_ne (E231.apart 0 1 (by decide) (by decide) (by decide) ⟨_, _, rfl⟩ ⟨_, _, rfl⟩) p237 p243
  refine then_normal ?_
  refine wp_seq ?_
  refine wp_seq ?_
  have HB : w.heap.size ≤ v231.heap.size := T232.size
  refine wp_plan_seq [.val (.az N0 z), .val (.is (.int .i64 (blen z.natAbs))), .val (.is (.int .i64 (blen z.natAbs)))] [] [] w.heap.size (by kernel_rfl) (by kernel_rfl) trivial HB ?_ ?_
  · exact ⟨fun s v h => does_val rfl rfl (x_load_z ((h.same 2 rfl).trans p237) ((h.far q236 b240.lt (by simp)).trans b240)) (f233.mono h.mono),
      fun s v h => does_call rfl rfl (x_call1 Try.call20) (zbits_k (h.dep 0 rfl)),
      fun s v h => does_val rfl rfl (x_assign) (h.dep 1 rfl), trivial⟩
  intro g250 ts v250 hts E250
  simp only [fillL, Nat.reduceAdd, List.setIfInBounds_toArray, List.set_cons_zero, List.set_cons_succ] at hts
  subst hts
  have T251 : Below w.heap.size w v250 := T232.trans E250.below
  have l252 : q236 < v231.heap.size := b240.lt
  have l253 : q242 < v231.heap.size := b246.lt
  have b254 : Bx v250 q236 24 #[.bool na0, .slice A0 n0 c0] := (E250.far q236 b240.lt (by simp)).trans b240
  have b255 : Bx v250 q242 24 #[.bool false, .slice none 0 0] := (E250.far q242 b246.lt (by simp)).trans b246
  have f256 := f233.mono E250.mono
  have f257 := f234.mono E250.mono
  have f258 := f247.mono E250.mono
  have f259 : Az N0 v250 (g250 0) z := E250.facts 0 (by decide)
  have e260 : g250 1 = (.int .i64 (blen z.natAbs)) := E250.facts 1 (by decide)
  have e261 : g250 2 = (.int .i64 (blen z.natAbs)) := E250.facts 2 (by decide)
  refine then_normal ?_
  refine wp_block ?_
  refine wp_seq ?_
  have HB : w.heap.size ≤ v250.heap.size := T251.size
  refine wp_plan_seq [.val (.is (.int .i64 n)), .val (.is (.bool false)), .val (.is (.bool false))] [] [] w.heap.size (by kernel_rfl) (by kernel_rfl) trivial HB ?_ ?_
  · exact ⟨fun s v h => does_val rfl rfl (x_move) (h.same 1 rfl),
      fun s v h => does_val rfl rfl (x_lss (h.dep 0 rfl) rfl) (congrArg Value.bool d1),
      fun s v h => does_val rfl rfl (x_assign) (h.dep 1 rfl), trivial⟩
  intro g262 ts v262 hts E262
  simp only [fillL, Nat.reduceAdd, List.setIfInBounds_toArray, List.set_cons_zero, List.set_cons_succ] at hts
  subst hts
  have T263 : Below w.heap.size w v262 := T251.trans E262.below
  have l264 : q236 < v250.heap.size := b254.lt
  have l265 : q242 < v250.heap.size := b255.lt
  have b266 : Bx v262 q236 24 #[.bool na0, .slice A0 n0 c0] := (E262.far q236 b254.lt (by simp)).trans b254
  have b267 : Bx v262 q242 24 #[.bool false, .slice none 0 0] := (E262.far q242 b255.lt (by simp)).trans b255
  have f268 := f256.mono E262.mono
  have f269 := f257.mono E262.mono
  have f270 := f258.mono E262.mono
  have f271 := f259.mono E262.mono
  have e272 : g262 0 = (.int .i64 n) := E262.facts 0 (by decide)
  have e273 : g262 1 = (.bool false) := E262.facts 1 (by decide)
  have e274 : g262 2 = (.bool false) := E262.facts 2 (by decide)
  refine then_normal ?_
  refine wp_cond_false e274 ?_
  refine wp_seq ?_
  have HB : w.heap.size ≤ v262.heap.size := T263.size
  refine wp_plan_seq [.val (.is (.int .i64 (blen z.natAbs))), .val (.is (.bool false)), .val (.is (.bool false)), .val .any, .val .any, .val .any, .val .any, .val (.is (.bool false)), .val (.is (.bool false))] [] [] w.heap.size (by kernel_rfl) (by kernel_rfl) trivial HB ?_ ?_
  · exact ⟨fun s v h => does_val rfl rfl (x_move) ((h.same 6 rfl).trans e261),
      fun s v h => does_val rfl rfl (x_gtr (h.dep 0 rfl) rfl) (congrArg Value.bool d2),
      fun s v h => does_val rfl rfl (x_move) (h.dep 1 rfl),
      fun s v h => does_skip rfl (wanted_by (b := false) (want := true) rfl rfl (h.dep 2 rfl)) trivial,
      fun s v h => does_skip rfl (wanted_by (b := false) (want := true) rfl rfl (h.dep 2 rfl)) trivial,
      fun s v h => does_skip rfl (wanted_by (b := false) (want := true) rfl rfl (h.dep 2 rfl)) trivial,
      fun s v h => does_skip rfl (wanted_by (b := false) (want := true) rfl rfl (h.dep 2 rfl)) trivial,
      fun s v h => does_val rfl rfl (x_pick (h.dep 2 rfl)) rfl,
      fun s v h => does_val rfl rfl (x_assign) (h.dep 7 rfl), trivial⟩
  intro g275 ts v275 hts E275
  simp only [fillL, Nat.reduceAdd, List.setIfInBounds_toArray, List.set_cons_zero, List.set_cons_succ] at hts
  subst hts
  have T276 : Below w.heap.size w v275 := T263.trans E275.below
  have l277 : q236 < v262.heap.size := b266.lt
  have l278 : q242 < v262.heap.size := b267.lt
  have b279 : Bx v275 q236 24 #[.bool na0, .slice A0 n0 c0] := (E275.far q236 b266.lt (by simp)).trans b266
  have b280 : Bx v275 q242 24 #[.bool false, .slice none 0 0] := (E275.far q242 b267.lt (by simp)).trans b267
  have f281 := f268.mono E275.mono
  have f282 := f269.mono E275.mono
  have f283 := f270.mono E275.mono
  have f284 := f271.mono E275.mono
  have e285 : g275 0 = (.int .i64 (blen z.natAbs)) := E275.facts 0 (by decide)
  have e286 : g275 1 = (.bool false) := E275.facts 1 (by decide)
  have e287 : g275 2 = (.bool false) := E275.facts 2 (by decide)
  have e288 : g275 7 = (.bool false) := E275.facts 7 (by decide)
  have e289 : g275 8 = (.bool false) := E275.facts 8 (by decide)
  refine then_normal ?_
  refine wp_cond_false e289 ?_
  refine wp_seq ?_
  have HB : w.heap.size ≤ v275.heap.size := T276.size
  refine wp_plan_seq [.val (.is (.int .i64 n)), .val (.is (.bool true)), .val (.is (.bool true))] [] [] w.heap.size (by kernel_rfl) (by kernel_rfl) trivial HB ?_ ?_
  · exact ⟨fun s v h => does_val rfl rfl (x_move) (h.same 1 rfl),
      fun s v h => does_val rfl rfl (x_eql_int (h.dep 0 rfl) rfl) (congrArg Value.bool d4),
      fun s v h => does_val rfl rfl (x_assign) (h.dep 1 rfl), trivial⟩
  intro g290 ts v290 hts E290
  simp only [fillL, Nat.reduceAdd, List.setIfInBounds_toArray, List.set_cons_zero, List.set_cons_succ] at hts
  subst hts
  have T291 : Below w.heap.size w v290 := T276.trans E290.below
  have l292 : q236 < v275.heap.size := b279.lt
  have l293 : q242 < v275.heap.size := b280.lt
  have b294 : Bx v290 q236 24 #[.bool na0, .slice A0 n0 c0] := (E290.far q236 b279.lt (by simp)).trans b279
  have b295 : Bx v290 q242 24 #[.bool false, .slice none 0 0] := (E290.far q242 b280.lt (by simp)).trans b280
  have f296 := f281.mono E290.mono
  have f297 := f282.mono E290.mono
  have f298 := f283.mono E290.mono
  have f299 := f284.mono E290.mono
  have e300 : g290 0 = (.int .i64 n) := E290.facts 0 (by decide)
  have e301 : g290 1 = (.bool true) := E290.facts 1 (by decide)
  have e302 : g290 2 = (.bool true) := E290.facts 2 (by decide)
  refine then_normal ?_
  refine wp_cond_true e302 ?_
  refine wp_seq ?_
  have HB : w.heap.size ≤ v290.heap.size := T291.size
  refine wp_plan_seq [.val (.cz 1), .put 4 28, .val (.is (.int .i64 0))] [4] [q242] w.heap.size (by kernel_rfl) (by kernel_rfl) ⟨p243, b295.lt, (by simp), trivial⟩ HB ?_ ?_
  · exact ⟨fun s v h => does_call rfl rfl (x_call1 Try.call42) (of_k rfl (by decide) (by decide)),
      fun s v h => does_put_z rfl rfl ((h.same 4 rfl).trans p243) (h.dep 0 rfl).shape (h.mono.ok _ _ b295.ok2) h248,
      fun s v h => does_val rfl rfl (x_assign) rfl, trivial⟩
  intro g303 ts v303 hts E303
  simp only [fillL, Nat.reduceAdd, List.setIfInBounds_toArray, List.set_cons_zero, List.set_cons_succ] at hts
  subst hts
  have T304 : Below w.heap.size w v303 := T291.trans E303.below
  have l305 : q236 < v290.heap.size := b294.lt
  have l306 : q242 < v290.heap.size := b295.lt
  have b307 : Bx v303 q236 24 #[.bool na0, .slice A0 n0 c0] := (E303.far q236 b294.lt (nin1 n249)).trans b294
  have f308 := f296.mono E303.mono
  have f309 := f297.mono E303.mono
  have f310 := f298.mono E303.mono
  have f311 := f299.mono E303.mono
  have f312 : Cz v303 (g303 0) 1 := E303.facts 0 (by decide)
  have e313 : g303 2 = (.int .i64 0) := E303.facts 2 (by decide)
  obtain ⟨t314, x316, A317, m318, c319, e320, b315⟩ := put_info (E303.facts 1 (by decide)) p243 f312.shape
  have f321 : Cz v303 (.agg #[.bool x316, .slice A317 m318 c319]) 1 := f312.at e320.symm
  refine then_normal ?_
  refine wp_ret ?_
  exact bodyPost_ret (ret_ct rfl p243 b315) rfl ⟨_, rfl, ⟨_, _, rfl, f321, e313⟩, T304⟩

set_option maxHeartbeats 4000000 in
set_option maxRecDepth 8000 in
theorem zpow_e {w : World} {x : Value} {z : Int} {N0 : Nat} (h0 : Az N0 w x z) {n : Int} (d1 : decide (n < 0) = false) (d2 : decide ((0 : Int) < (blen z.natAbs : Int)) = false) (d4 : (n == 0) = false) (d5 : ((blen z.natAbs : Int) == 0) = true)  : Calls Try.prog 35 #[x, .int .i64 n] w (Ret (.tup2 (.cz 0) (.is (.int .i64 0))) w) := by
  have la0 := h0.len
  obtain ⟨na0, A0, n0, c0, M0, rfl, hm0, hz0⟩ := h0.parts
  have T0 : Below w.heap.size w w := Below.refl _ _
  go_enter Try.func35, Try.ntmps35
  refine wp_seq ?_
  have HB : w.heap.size ≤ w.heap.size := T0.size
  refine wp_plan_seq [.new 2 (some (24, #[.bool na0, .slice A0 n0 c0])), .new 2 (some (24, #[.bool false, .slice none 0 0])), .val (.is (.int .i64 0))] [] [] w.heap.size (by kernel_rfl) (by kernel_rfl) trivial HB ?_ ?_
  · exact ⟨fun s v h => does_new rfl rfl (x_box_z (h.same 0 rfl)) (okz _ _ _ _) rfl (.inr rfl),
      fun s v h => does_new rfl rfl x_alloc_z (okz _ _ _ _) rfl (.inr rfl),
      fun s v h => does_val rfl rfl (x_assign) rfl, trivial⟩
  intro g322 ts v322 hts E322
  simp only [fillL, Nat.reduceAdd, List.setIfInBounds_toArray, List.set_cons_zero, List.set_cons_succ] at hts
  subst hts
  have T323 : Below w.heap.size w v322 := T0.trans E322.below
  have f324 := h0.mono E322.mono
  have f325 := hm0.mono E322.mono
  have e326 : g322 2 = (.int .i64 0) := E322.facts 2 (by decide)
  obtain ⟨q327, p328, l329, o330, b331⟩ : ∃ q, g322 0 = .pointer (some ⟨q, 0, none⟩) ∧ w.heap.size ≤ q ∧ OkB v322 q 2 ∧ Bx v322 q 24 #[.bool na0, .slice A0 n0 c0] := E322.facts 0 (by decide)
  have h332 : w.heap.size ≤ q327 := Nat.le_trans HB l329
  obtain ⟨q333, p334, l335, o336, b337⟩ : ∃ q, g322 1 = .pointer (some ⟨q, 0, none⟩) ∧ w.heap.size ≤ q ∧ OkB v322 q 2 ∧ Bx v322 q 24 #[.bool false, .slice none 0 0] := E322.facts 1 (by decide)
  have f338 : Cz v322 (.agg #[.bool false, .slice none 0 0]) 0 := cz_zero _
  have h339 : w.heap.size ≤ q333 := Nat.le_trans HB l335
  have n340 : q327 ≠ q333 := apart_ne (E322.apart 0 1 (by decide) (by decide) (by decide) ⟨_, _, rfl⟩ ⟨_, _, rfl⟩) p328 p334
  refine then_normal ?_
  refine wp_seq ?_
  refine wp_seq ?_
  have HB : w.heap.size ≤ v322.heap.size := T323.size
  refine wp_plan_seq [.val (.az N0 z), .val (.is (.int .i64 (blen z.natAbs))), .val (.is (.int .i64 (blen z.natAbs)))] [] [] w.heap.size (by kernel_rfl) (by kernel_rfl) trivial HB ?_ ?_
  · exact ⟨fun s v h => does_val rfl rfl (x_load_z ((h.same 2 rfl).trans p328) ((h.far q327 b331.lt (by simp)).trans b331)) (f324.mono h.mono),
      fun s v h => does_call rfl rfl (x_call1 Try.call20) (zbits_k (h.dep 0 rfl)),
      fun s v h => does_val rfl rfl (x_assign) (h.dep 1 rfl), trivial⟩
  intro g341 ts v341 hts E341
  simp only [fillL, Nat.reduceAdd, List.setIfInBounds_toArray, List.set_cons_zero, List.set_cons_succ] at hts
  subst hts
  have T342 : Below w.heap.size w v341 := T323.trans E341.below
  have l343 : q327 < v322.heap.size := b331.lt
  have l344 : q333 < v322.heap.size := b337.lt
  have b345 : Bx v341 q327 24 #[.bool na0, .slice A0 n0 c0] := (E341.far q327 b331.lt (by simp)).trans b331
  have b346 : Bx v341 q333 24 #[.bool false, .slice none 0 0] := (E341.far q333 b337.lt (by simp)).trans b337
  have f347 := f324.mono E341.mono
  have f348 := f325.mono E341.mono
  have f349 := f338.mono E341.mono
  have f350 : Az N0 v341 (g341 0) z := E341.facts 0 (by decide)
  have e351 : g341 1 = (.int .i64 (blen z.natAbs)) := E341.facts 1 (by decide)
  have e352 : g341 2 = (.int .i64 (blen z.natAbs)) := E341.facts 2 (by decide)
  refine then_normal ?_
  refine wp_block ?_
  refine wp_seq ?_
  have HB : w.heap.size ≤ v341.heap.size := T342.size
  refine wp_plan_seq [.val (.is (.int .i64 n)), .val (.is (.bool false)), .val (.is (.bool false))] [] [] w.heap.size (by kernel_rfl) (by kernel_rfl) trivial HB ?_ ?_
  · exact ⟨fun s v h => does_val rfl rfl (x_move) (h.same 1 rfl),
      fun s v h => does_val rfl rfl (x_lss (h.dep 0 rfl) rfl) (congrArg Value.bool d1),
      fun s v h => does_val rfl rfl (x_assign) (h.dep 1 rfl), trivial⟩
  intro g353 ts v353 hts E353
  simp only [fillL, Nat.reduceAdd, List.setIfInBounds_toArray, List.set_cons_zero, List.set_cons_succ] at hts
  subst hts
  have T354 : Below w.heap.size w v353 := T342.trans E353.below
  have l355 : q327 < v341.heap.size := b345.lt
  have l356 : q333 < v341.heap.size := b346.lt
  have b357 : Bx v353 q327 24 #[.bool na0, .slice A0 n0 c0] := (E353.far q327 b345.lt (by simp)).trans b345
  have b358 : Bx v353 q333 24 #[.bool false, .slice none 0 0] := (E353.far q333 b346.lt (by simp)).trans b346
  have f359 := f347.mono E353.mono
  have f360 := f348.mono E353.mono
  have f361 := f349.mono E353.mono
  have f362 := f350.mono E353.mono
  have e363 : g353 0 = (.int .i64 n) := E353.facts 0 (by decide)
  have e364 : g353 1 = (.bool false) := E353.facts 1 (by decide)
  have e365 : g353 2 = (.bool false) := E353.facts 2 (by decide)
  refine then_normal ?_
  refine wp_cond_false e365 ?_
  refine wp_seq ?_
  have HB : w.heap.size ≤ v353.heap.size := T354.size
  refine wp_plan_seq [.val (.is (.int .i64 (blen z.natAbs))), .val (.is (.bool false)), .val (.is (.bool false)), .val .any, .val .any, .val .any, .val .any, .val (.is (.bool false)), .val (.is (.bool false))] [] [] w.heap.size (by kernel_rfl) (by kernel_rfl) trivial HB ?_ ?_
  · exact ⟨fun s v h => does_val rfl rfl (x_move) ((h.same 6 rfl).trans e352),
      fun s v h => does_val rfl rfl (x_gtr (h.dep 0 rfl) rfl) (congrArg Value.bool d2),
      fun s v h => does_val rfl rfl (x_move) (h.dep 1 rfl),
      fun s v h => does_skip rfl (wanted_by (b := false) (want := true) rfl rfl (h.dep 2 rfl)) trivial,
      fun s v h => does_skip rfl (wanted_by (b := false) (want := true) rfl rfl (h.dep 2 rfl)) trivial,
      fun s v h => does_skip rfl (wanted_by (b := false) (want := true) rfl rfl (h.dep 2 rfl)) trivial,
      fun s v h => does_skip rfl (wanted_by (b := false) (want := true) rfl rfl (h.dep 2 rfl)) trivial,
      fun s v h => does_val rfl rfl (x_pick (h.dep 2 rfl)) rfl,
      fun s v h => does_val rfl rfl (x_assign) (h.dep 7 rfl), trivial⟩
  intro g366 ts v366 hts E366
  simp only [fillL, Nat.reduceAdd, List.setIfInBounds_toArray, List.set_cons_zero, List.set_cons_succ] at hts
  subst hts
  have T367 : Below w.heap.size w v366 := T354.trans E366.below
  have l368 : q327 < v353.heap.size := b357.lt
  have l369 : q333 < v353.heap.size := b358.lt
  have b370 : Bx v366 q327 24 #[.bool na0, .slice A0 n0 c0] := (E366.far q327 b357.lt (by simp)).trans b357
  have b371 : Bx v366 q333 24 #[.bool false, .slice none 0 0] := (E366.far q333 b358.lt (by simp)).trans b358
  have f372 := f359.mono E366.mono
  have f373 := f360.mono E366.mono
  have f374 := f361.mono E366.mono
  have f375 := f362.mono E366.mono
  have e376 : g366 0 = (.int .i64 (blen z.natAbs)) := E366.facts 0 (by decide)
  have e377 : g366 1 = (.bool false) := E366.facts 1 (by decide)
  have e378 : g366 2 = (.bool false) := E366.facts 2 (by decide)
  have e379 : g366 7 = (.bool false) := E366.facts 7 (by decide)
  have e380 : g366 8 = (.bool false) := E366.facts 8 (by decide)
  refine then_normal ?_
  refine wp_cond_false e380 ?_
  refine wp_seq ?_
  have HB : w.heap.size ≤ v366.heap.size := T367.size
  refine wp_plan_seq [.val (.is (.int .i64 n)), .val (.is (.bool false)), .val (.is (.bool false))] [] [] w.heap.size (by kernel_rfl) (by kernel_rfl) trivial HB ?_ ?_
  · exact ⟨fun s v h => does_val rfl rfl (x_move) (h.same 1 rfl),
      fun s v h => does_val rfl rfl (x_eql_int (h.dep 0 rfl) rfl) (congrArg Value.bool d4),
      fun s v h => does_val rfl rfl (x_assign) (h.dep 1 rfl), trivial⟩
  intro g381 ts v381 hts E381
  simp only [fillL, Nat.reduceAdd, List.setIfInBounds_toArray, List.set_cons_zero, List.set_cons_succ] at hts
  subst hts
  have T382 : Below w.heap.size w v381 := T367.trans E381.below
  have l383 : q327 < v366.heap.size := b370.lt
  have l384 : q333 < v366.heap.size := b371.lt
  have b385 : Bx v381 q327 24 #[.bool na0, .slice A0 n0 c0] := (E381.far q327 b370.lt (by simp)).trans b370
  have b386 : Bx v381 q333 24 #[.bool false, .slice none 0 0] := (E381.far q333 b371.lt (by simp)).trans b371
  have f387 := f372.mono E381.mono
  have f388 := f373.mono E381.mono
  have f389 := f374.mono E381.mono
  have f390 := f375.mono E381.mono
  have e391 : g381 0 = (.int .i64 n) := E381.facts 0 (by decide)
  have e392 : g381 1 = (.bool false) := E381.facts 1 (by decide)
  have e393 : g381 2 = (.bool false) := E381.facts 2 (by decide)
  refine then_normal ?_
  refine wp_cond_false e393 ?_
  refine wp_seq ?_
  have HB : w.heap.size ≤ v381.heap.size := T382.size
  refine wp_plan_seq [.val (.is (.int .i64 (blen z.natAbs))), .val (.is (.bool true)), .val (.is (.bool true))] [] [] w.heap.size (by kernel_rfl) (by kernel_rfl) trivial HB ?_ ?_
  · exact ⟨fun s v h => does_val rfl rfl (x_move) ((h.same 6 rfl).trans e352),
      fun s v h => does_val rfl rfl (x_eql_int (h.dep 0 rfl) rfl) (congrArg Value.bool d5),
      fun s v h => does_val rfl rfl (x_assign) (h.dep 1 rfl), trivial⟩
  intro g394 ts v394 hts E394
  simp only [fillL, Nat.reduceAdd, List.setIfInBounds_toArray, List.set_cons_zero, List.set_cons_succ] at hts
  subst hts
  have T395 : Below w.heap.size w v394 := T382.trans E394.below
  have l396 : q327 < v381.heap.size := b385.lt
  have l397 : q333 < v381.heap.size := b386.lt
  have b398 : Bx v394 q327 24 #[.bool na0, .slice A0 n0 c0] := (E394.far q327 b385.lt (by simp)).trans b385
  have b399 : Bx v394 q333 24 #[.bool false, .slice none 0 0] := (E394.far q333 b386.lt (by simp)).trans b386
  have f400 := f387.mono E394.mono
  have f401 := f388.mono E394.mono
  have f402 := f389.mono E394.mono
  have f403 := f390.mono E394.mono
  have e404 : g394 0 = (.int .i64 (blen z.natAbs)) := E394.facts 0 (by decide)
  have e405 : g394 1 = (.bool true) := E394.facts 1 (by decide)
  have e406 : g394 2 = (.bool true) := E394.facts 2 (by decide)
  refine then_normal ?_
  refine wp_cond_true e406 ?_
  refine wp_seq ?_
  have HB : w.heap.size ≤ v394.heap.size := T395.size
  refine wp_plan_seq [.val (.is (.agg #[.bool false, .slice none 0 0])), .put 4 32, .val (.is (.int .i64 0))] [4] [q333] w.heap.size (by kernel_rfl) (by kernel_rfl) ⟨p334, b399.lt, (by simp), trivial⟩ HB ?_ ?_
  · exact ⟨fun s v h => does_val rfl rfl x_build0 rfl,
      fun s v h => does_put_z rfl rfl ((h.same 4 rfl).trans p334) ⟨_, _, _, _, (h.dep 0 rfl)⟩ (h.mono.ok _ _ b399.ok2) h339,
      fun s v h => does_val rfl rfl (x_assign) rfl, trivial⟩
  intro g407 ts v407 hts E407
  simp only [fillL, Nat.reduceAdd, List.setIfInBounds_toArray, List.set_cons_zero, List.set_cons_succ] at hts
  subst hts
  have T408 : Below w.heap.size w v407 := T395.trans E407.below
  have l409 : q327 < v394.heap.size := b398.lt
  have l410 : q333 < v394.heap.size := b399.lt
  have b411 : Bx v407 q327 24 #[.bool na0, .slice A0 n0 c0] := (E407.far q327 b398.lt (nin1 n340)).trans b398
  have f412 := f400.mono E407.mono
  have f413 := f401.mono E407.mono
  have f414 := f402.mono E407.mono
  have f415 := f403.mono E407.mono
  have e416 : g407 0 = (.agg #[.bool false, .slice none 0 0]) := E407.facts 0 (by decide)
  have e417 : g407 2 = (.int .i64 0) := E407.facts 2 (by decide)
  obtain ⟨t418, b419⟩ := put_lit (E407.facts 1 (by decide)) p334 e416
  have f420 : Cz v407 (.agg #[.bool false, .slice none 0 0]) 0 := cz_zero _
  refine then_normal ?_
  refine wp_ret ?_
  exact bodyPost_ret (ret_ct rfl p334 b419) rfl ⟨_, rfl, ⟨_, _, rfl, f420, e417⟩, T408⟩

set_option maxHeartbeats 4000000 in
set_option maxRecDepth 8000 in
theorem zpow_f {w : World} {x : Value} {z : Int} {N0 : Nat} (h0 : Az N0 w x z) {n : Int} (hN0 : N0 ≤ 1000000000) (hz0n : z ≠ 0) (hn0 : 0 < n) (LA : (digs (z ^ n.toNat).natAbs).length ≤ 2049) (d1 : decide (n < 0) = false) (d2 : decide ((0 : Int) < (blen z.natAbs : Int)) = true) (d3 : decide ((65536 / (blen z.natAbs : Int)) < n) = false) (d4 : (n == 0) = false) (d5 : ((blen z.natAbs : Int) == 0) = false)  : Calls Try.prog 35 #[x, .int .i64 n] w (Ret (.tup2 (.cz (z ^ n.toNat)) (.is (.int .i64 0))) w) := by
  have _u := hN0
  have la0 := h0.len
  obtain ⟨na0, A0, n0, c0, M0, rfl, hm0, hz0⟩ := h0.parts
  have hbl := blen_bits la0
  have T0 : Below w.heap.size w w := Below.refl _ _
  go_enter Try.func35, Try.ntmps35
  refine wp_seq ?_
  have HB : w.heap.size ≤ w.heap.size := T0.size
  refine wp_plan_seq [.new 2 (some (24, #[.bool na0, .slice A0 n0 c0])), .new 2 (some (24, #[.bool false, .slice none 0 0])), .val (.is (.int .i64 0))] [] [] w.heap.size (by kernel_rfl) (by kernel_rfl) trivial HB ?_ ?_
  · exact ⟨fun s v h => does_new rfl rfl (x_box_z (h.same 0 rfl)) (okz _ _ _ _) rfl (.inr rfl),
      fun s v h => does_new rfl rfl x_alloc_z (okz _ _ _ _) rfl (.inr rfl),
      fun s v h => does_val rfl rfl (x_assign) rfl, trivial⟩
  intro g421 ts v421 hts E421
  simp only [fillL, Nat.reduceAdd, List.setIfInBounds_toArray, List.set_cons_zero, List.set_cons_succ] at hts
  subst hts
  have T422 : Below w.heap.size w v421 := T0.trans E421.below
  have f423 := h0.mono E421.mono
  have f424 := hm0.mono E421.mono
  have e425 : g421 2 = (.int .i64 0) := E421.facts 2 (by decide)
  obtain ⟨q426, p427, l428, o429, b430⟩ : ∃ q, g421 0 = .pointer (some ⟨q, 0, none⟩) ∧ w.heap.size ≤ q ∧ OkB v421 q 2 ∧ Bx v421 q 24 #[.bool na0, .slice A0 n0 c0] := E421.facts 0 (by decide)
  have h431 : w.heap.size ≤ q426 := Nat.le_trans HB l428
  obtain ⟨q432, p433, l434, o435, b436⟩ : ∃ q, g421 1 = .pointer (some ⟨q, 0, none⟩) ∧ w.heap.size ≤ q ∧ OkB v421 q 2 ∧ Bx v421 q 24 #[.bool false, .slice none 0 0] := E421.facts 1 (by decide)
  have f437 : Cz v421 (.agg #[.bool false, .slice none 0 0]) 0 := cz_zero _
  have h438 : w.heap.size ≤ q432 := Nat.le_trans HB l434
  have n439 : q426 ≠ q432 := apart_ne (E421.apart 0 1 (by decide) (by decide) (by decide) ⟨_, _, rfl⟩ ⟨_, _, rfl⟩) p427 p433
  refine then_normal ?_
  refine wp_seq ?_
  refine wp_seq ?_
  have HB : w.heap.size ≤ v421.heap.size := T422.size
  refine wp_plan_seq [.val (.az N0 z), .val (.is (.int .i64 (blen z.natAbs))), .val (.is (.int .i64 (blen z.natAbs)))] [] [] w.heap.size (by kernel_rfl) (by kernel_rfl) trivial HB ?_ ?_
  · exact ⟨fun s v h => does_val rfl rfl (x_load_z ((h.same 2 rfl).trans p427) ((h.far q426 b430.lt (by simp)).trans b430)) (f423.mono h.mono),
      fun s v h => does_call rfl rfl (x_call1 Try.call20) (zbits_k (h.dep 0 rfl)),
      fun s v h => does_val rfl rfl (x_assign) (h.dep 1 rfl), trivial⟩
  intro g440 ts v440 hts E440
  simp only [fillL, Nat.reduceAdd, List.setIfInBounds_toArray, List.set_cons_zero, List.set_cons_succ] at hts
  subst hts
  have T441 : Below w.heap.size w v440 := T422.trans E440.below
  have l442 : q426 < v421.heap.size := b430.lt
  have l443 : q432 < v421.heap.size := b436.lt
  have b444 : Bx v440 q426 24 #[.bool na0, .slice A0 n0 c0] := (E440.far q426 b430.lt (by simp)).trans b430
  have b445 : Bx v440 q432 24 #[.bool false, .slice none 0 0] := (E440.far q432 b436.lt (by simp)).trans b436
  have f446 := f423.mono E440.mono
  have f447 := f424.mono E440.mono
  have f448 := f437.mono E440.mono
  have f449 : Az N0 v440 (g440 0) z := E440.facts 0 (by decide)
  have e450 : g440 1 = (.int .i64 (blen z.natAbs)) := E440.facts 1 (by decide)
  have e451 : g440 2 = (.int .i64 (blen z.natAbs)) := E440.facts 2 (by decide)
  refine then_normal ?_
  refine wp_block ?_
  refine wp_seq ?_
  have HB : w.heap.size ≤ v440.heap.size := T441.size
  refine wp_plan_seq [.val (.is (.int .i64 n)), .val (.is (.bool false)), .val (.is (.bool false))] [] [] w.heap.size (by kernel_rfl) (by kernel_rfl) trivial HB ?_ ?_
  · exact ⟨fun s v h => does_val rfl rfl (x_move) (h.same 1 rfl),
      fun s v h => does_val rfl rfl (x_lss (h.dep 0 rfl) rfl) (congrArg Value.bool d1),
      fun s v h => does_val rfl rfl (x_assign) (h.dep 1 rfl), trivial⟩
  intro g452 ts v452 hts E452
  simp only [fillL, Nat.reduceAdd, List.setIfInBounds_toArray, List.set_cons_zero, List.set_cons_succ] at hts
  subst hts
  have T453 : Below w.heap.size w v452 := T441.trans E452.below
  have l454 : q426 < v440.heap.size := b444.lt
  have l455 : q432 < v440.heap.size := b445.lt
  have b456 : Bx v452 q426 24 #[.bool na0, .slice A0 n0 c0] := (E452.far q426 b444.lt (by simp)).trans b444
  have b457 : Bx v452 q432 24 #[.bool false, .slice none 0 0] := (E452.far q432 b445.lt (by simp)).trans b445
  have f458 := f446.mono E452.mono
  have f459 := f447.mono E452.mono
  have f460 := f448.mono E452.mono
  have f461 := f449.mono E452.mono
  have e462 : g452 0 = (.int .i64 n) := E452.facts 0 (by decide)
  have e463 : g452 1 = (.bool false) := E452.facts 1 (by decide)
  have e464 : g452 2 = (.bool false) := E452.facts 2 (by decide)
  refine then_normal ?_
  refine wp_cond_false e464 ?_
  refine wp_seq ?_
  have HB : w.heap.size ≤ v452.heap.size := T453.size
  refine wp_plan_seq [.val (.is (.int .i64 (blen z.natAbs))), .val (.is (.bool true)), .val (.is (.bool true)), .val (.is (.int .i64 n)), .val (.is (.int .i64 (blen z.natAbs))), .val (.is (.int .i64 (65536 / (blen z.natAbs : Int)))), .val (.is (.bool false)), .val (.is (.bool false)), .val (.is (.bool false))] [] [] w.heap.size (by kernel_rfl) (by kernel_rfl) trivial HB ?_ ?_
  · exact ⟨fun s v h => does_val rfl rfl (x_move) ((h.same 6 rfl).trans e451),
      fun s v h => does_val rfl rfl (x_gtr (h.dep 0 rfl) rfl) (congrArg Value.bool d2),
      fun s v h => does_val rfl rfl (x_move) (h.dep 1 rfl),
      fun s v h => does_val rfl (wanted_by (b := true) (want := true) rfl rfl (h.dep 2 rfl)) (x_move) (h.same 1 rfl),
      fun s v h => does_val rfl (wanted_by (b := true) (want := true) rfl rfl (h.dep 2 rfl)) (x_move) ((h.same 6 rfl).trans e451),
      fun s v h => does_val rfl (wanted_by (b := true) (want := true) rfl rfl (h.dep 2 rfl)) (x_quo rfl (h.dep 4 rfl) (by decide) (by decide) (by have := of_decide_eq_true d2; omega) (by omega)) rfl,
      fun s v h => does_val rfl (wanted_by (b := true) (want := true) rfl rfl (h.dep 2 rfl)) (x_gtr (h.dep 3 rfl) (h.dep 5 rfl)) (congrArg Value.bool d3),
      fun s v h => does_val rfl rfl (x_pick (h.dep 2 rfl)) (h.dep 6 rfl),
      fun s v h => does_val rfl rfl (x_assign) (h.dep 7 rfl), trivial⟩
  intro g465 ts v465 hts E465
  simp only [fillL, Nat.reduceAdd, List.setIfInBounds_toArray, List.set_cons_zero, List.set_cons_succ] at hts
  subst hts
  have T466 : Below w.heap.size w v465 := T453.trans E465.below
  have l467 : q426 < v452.heap.size := b456.lt
  have l468 : q432 < v452.heap.size := b457.lt
  have b469 : Bx v465 q426 24 #[.bool na0, .slice A0 n0 c0] := (E465.far q426 b456.lt (by simp)).trans b456
  have b470 : Bx v465 q432 24 #[.bool false, .slice none 0 0] := (E465.far q432 b457.lt (by simp)).trans b457
  have f471 := f458.mono E465.mono
  have f472 := f459.mono E465.mono
  have f473 := f460.mono E465.mono
  have f474 := f461.mono E465.mono
  have e475 : g465 0 = (.int .i64 (blen z.natAbs)) := E465.facts 0 (by decide)
  have e476 : g465 1 = (.bool true) := E465.facts 1 (by decide)
  have e477 : g465 2 = (.bool true) := E465.facts 2 (by decide)
  have e478 : g465 3 = (.int .i64 n) := E465.facts 3 (by decide)
  have e479 : g465 4 = (.int .i64 (blen z.natAbs)) := E465.facts 4 (by decide)
  have e480 : g465 5 = (.int .i64 (65536 / (blen z.natAbs : Int))) := E465.facts 5 (by decide)
  have e481 : g465 6 = (.bool false) := E465.facts 6 (by decide)
  have e482 : g465 7 = (.bool false) := E465.facts 7 (by decide)
  have e483 : g465 8 = (.bool false) := E465.facts 8 (by decide)
  refine then_normal ?_
  refine wp_cond_false e483 ?_
  refine wp_seq ?_
  have HB : w.heap.size ≤ v465.heap.size := T466.size
  refine wp_plan_seq [.val (.is (.int .i64 n)), .val (.is (.bool false)), .val (.is (.bool false))] [] [] w.heap.size (by kernel_rfl) (by kernel_rfl) trivial HB ?_ ?_
  · exact ⟨fun s v h => does_val rfl rfl (x_move) (h.same 1 rfl),
      fun s v h => does_val rfl rfl (x_eql_int (h.dep 0 rfl) rfl) (congrArg Value.bool d4),
      fun s v h => does_val rfl rfl (x_assign) (h.dep 1 rfl), trivial⟩
  intro g484 ts v484 hts E484
  simp only [fillL, Nat.reduceAdd, List.setIfInBounds_toArray, List.set_cons_zero, List.set_cons_succ] at hts
  subst hts
  have T485 : Below w.heap.size w v484 := T466.trans E484.below
  have l486 : q426 < v465.heap.size := b469.lt
  have l487 : q432 < v465.heap.size := b470.lt
  have b488 : Bx v484 q426 24 #[.bool na0, .slice A0 n0 c0] := (E484.far q426 b469.lt (by simp)).trans b469
  have b489 : Bx v484 q432 24 #[.bool false, .slice none 0 0] := (E484.far q432 b470.lt (by simp)).trans b470
  have f490 := f471.mono E484.mono
  have f491 := f472.mono E484.mono
  have f492 := f473.mono E484.mono
  have f493 := f474.mono E484.mono
  have e494 : g484 0 = (.int .i64 n) := E484.facts 0 (by decide)
  have e495 : g484 1 = (.bool false) := E484.facts 1 (by decide)
  have e496 : g484 2 = (.bool false) := E484.facts 2 (by decide)
  refine then_normal ?_
  refine wp_cond_false e496 ?_
  refine wp_seq ?_
  have HB : w.heap.size ≤ v484.heap.size := T485.size
  refine wp_plan_seq [.val (.is (.int .i64 (blen z.natAbs))), .val (.is (.bool false)), .val (.is (.bool false))] [] [] w.heap.size (by kernel_rfl) (by kernel_rfl) trivial HB ?_ ?_
  · exact ⟨fun s v h => does_val rfl rfl (x_move) ((h.same 6 rfl).trans e451),
      fun s v h => does_val rfl rfl (x_eql_int (h.dep 0 rfl) rfl) (congrArg Value.bool d5),
      fun s v h => does_val rfl rfl (x_assign) (h.dep 1 rfl), trivial⟩
  intro g497 ts v497 hts E497
  simp only [fillL, Nat.reduceAdd, List.setIfInBounds_toArray, List.set_cons_zero, List.set_cons_succ] at hts
  subst hts
  have T498 : Below w.heap.size w v497 := T485.trans E497.below
  have l499 : q426 < v484.heap.size := b488.lt
  have l500 : q432 < v484.heap.size := b489.lt
  have b501 : Bx v497 q426 24 #[.bool na0, .slice A0 n0 c0] := (E497.far q426 b488.lt (by simp)).trans b488
  have b502 : Bx v497 q432 24 #[.bool false, .slice none 0 0] := (E497.far q432 b489.lt (by simp)).trans b489
  have f503 := f490.mono E497.mono
  have f504 := f491.mono E497.mono
  have f505 := f492.mono E497.mono
  have f506 := f493.mono E497.mono
  have e507 : g497 0 = (.int .i64 (blen z.natAbs)) := E497.facts 0 (by decide)
  have e508 : g497 1 = (.bool false) := E497.facts 1 (by decide)
  have e509 : g497 2 = (.bool false) := E497.facts 2 (by decide)
  refine then_normal ?_
  refine wp_cond_false e509 ?_
  refine wp_skip ?_
  refine block_normal ?_
  refine then_normal ?_
  refine wp_seq ?_
  have HB : w.heap.size ≤ v497.heap.size := T498.size
  refine wp_plan_seq [.val (.cz 1), .new 2 none, .put 7 33] [] [] w.heap.size (by kernel_rfl) (by kernel_rfl) trivial HB ?_ ?_
  · exact ⟨fun s v h => does_call rfl rfl (x_call1 Try.call42) (of_k rfl (by decide) (by decide)),
      fun s v h => does_new rfl rfl x_alloc_z (okz _ _ _ _) rfl (.inl rfl),
      fun s v h => by obtain ⟨q, e1, e2, e3⟩ := new_at (h.dep 1 rfl); exact does_put_z rfl rfl e1 (h.dep 0 rfl).shape e3 (Nat.le_trans HB e2), trivial⟩
  intro g510 ts v510 hts E510
  simp only [fillL, Nat.reduceAdd, List.setIfInBounds_toArray, List.set_cons_zero, List.set_cons_succ] at hts
  subst hts
  have T511 : Below w.heap.size w v510 := T498.trans E510.below
  have l512 : q426 < v497.heap.size := b501.lt
  have l513 : q432 < v497.heap.size := b502.lt
  have b514 : Bx v510 q426 24 #[.bool na0, .slice A0 n0 c0] := (E510.far q426 b501.lt (by simp)).trans b501
  have b515 : Bx v510 q432 24 #[.bool false, .slice none 0 0] := (E510.far q432 b502.lt (by simp)).trans b502
  have f516 := f503.mono E510.mono
  have f517 := f504.mono E510.mono
  have f518 := f505.mono E510.mono
  have f519 := f506.mono E510.mono
  have f520 : Cz v510 (g510 0) 1 := E510.facts 0 (by decide)
  obtain ⟨q521, p522, l523, o524⟩ : ∃ q, g510 1 = .pointer (some ⟨q, 0, none⟩) ∧ v497.heap.size ≤ q ∧ OkB v510 q 2 := E510.facts 1 (by decide)
  have h525 : w.heap.size ≤ q521 := Nat.le_trans HB l523
  have n526 : q426 ≠ q521 := by omega
  have n527 : q432 ≠ q521 := by omega
  obtain ⟨t528, x530, A531, m532, c533, e534, b529⟩ := put_info (E510.facts 2 (by decide)) p522 f520.shape
  have f535 : Cz v510 (.agg #[.bool x530, .slice A531 m532 c533]) 1 := f520.at e534.symm
  refine then_normal ?_
  refine wp_seq ?_
  have HB : w.heap.size ≤ v510.heap.size := T511.size
  refine wp_plan_seq [.val (.az N0 z), .val (.cz z), .new 2 none, .put 8 35] [] [] w.heap.size (by kernel_rfl) (by kernel_rfl) trivial HB ?_ ?_
  · exact ⟨fun s v h => does_val rfl rfl (x_load_z ((h.same 2 rfl).trans p427) ((h.far q426 b514.lt (by simp)).trans b514)) (f516.mono h.mono),
      fun s v h => does_call rfl rfl (x_call1 Try.call15) (form_k (h.dep 0 rfl)),
      fun s v h => does_new rfl rfl x_alloc_z (okz _ _ _ _) rfl (.inl rfl),
      fun s v h => by obtain ⟨q, e1, e2, e3⟩ := new_at (h.dep 2 rfl); exact does_put_z rfl rfl e1 (h.dep 1 rfl).shape e3 (Nat.le_trans HB e2), trivial⟩
  intro g536 ts v536 hts E536
  simp only [fillL, Nat.reduceAdd, List.setIfInBounds_toArray, List.set_cons_zero, List.set_cons_succ] at hts
  subst hts
  have T537 : Below w.heap.size w v536 := T511.trans E536.below
  have l538 : q426 < v510.heap.size := b514.lt
  have l539 : q432 < v510.heap.size := b515.lt
  have l540 : q521 < v510.heap.size := b529.lt
  have b541 : Bx v536 q426 24 #[.bool na0, .slice A0 n0 c0] := (E536.far q426 b514.lt (by simp)).trans b514
  have b542 : Bx v536 q432 24 #[.bool false, .slice none 0 0] := (E536.far q432 b515.lt (by simp)).trans b515
  have b543 : Bx v536 q521 t528 #[.bool x530, .slice A531 m532 c533] := (E536.far q521 b529.lt (by simp)).trans b529
  have f544 := f516.mono E536.mono
  have f545 := f517.mono E536.mono
  have f546 := f518.mono E536.mono
  have f547 := f519.mono E536.mono
  have f548 := f520.mono E536.mono
  have f549 := f535.mono E536.mono
  have f550 : Az N0 v536 (g536 0) z := E536.facts 0 (by decide)
  have f551 : Cz v536 (g536 1) z := E536.facts 1 (by decide)
  obtain ⟨q552, p553, l554, o555⟩ : ∃ q, g536 2 = .pointer (some ⟨q, 0, none⟩) ∧ v510.heap.size ≤ q ∧ OkB v536 q 2 := E536.facts 2 (by decide)
  have h556 : w.heap.size ≤ q552 := Nat.le_trans HB l554
  have n557 : q426 ≠ q552 := by omega
  have n558 : q432 ≠ q552 := by omega
  have n559 : q521 ≠ q552 := by omega
  obtain ⟨t560, x562, A563, m564, c565, e566, b561⟩ := put_info (E536.facts 3 (by decide)) p553 f551.shape
  have f567 : Cz v536 (.agg #[.bool x562, .slice A563 m564 c565]) z := f551.at e566.symm
  refine then_normal ?_
  refine wp_block ?_
  refine wp_loop_v 51 (fun k y wL => ∃ (p1 : Int) (x1 : Int) (m1 : Int) (ty7 : TypeId) (b7_ : Bool) (A7_ : Option Addr) (m7_ c7_ : Nat) (ty8 : TypeId) (b8_ : Bool) (A8_ : Option Addr) (m8_ c8_ : Nat) (g8_ : Nat), y 2 = .pointer (some ⟨q426, 0, none⟩) ∧ y 4 = .pointer (some ⟨q432, 0, none⟩) ∧ y 7 = .pointer (some ⟨q521, 0, none⟩) ∧ y 8 = .pointer (some ⟨g8_, 0, none⟩) ∧ w.heap.size ≤ g8_ ∧ q426 ≠ g8_ ∧ q432 ≠ g8_ ∧ q521 ≠ g8_ ∧ y 1 = (.int .i64 m1) ∧ Below w.heap.size w wL ∧ Bx wL q426 24 #[.bool na0, .slice A0 n0 c0] ∧ Az N0 wL (.agg #[.bool na0, .slice A0 n0 c0]) z ∧ Bx wL q432 24 #[.bool false, .slice none 0 0] ∧ Cz wL (.agg #[.bool false, .slice none 0 0]) 0 ∧ Bx wL q521 ty7 #[.bool b7_, .slice A7_ m7_ c7_] ∧ Cz wL (.agg #[.bool b7_, .slice A7_ m7_ c7_]) p1 ∧ Bx wL g8_ ty8 #[.bool b8_, .slice A8_ m8_ c8_] ∧ Cz wL (.agg #[.bool b8_, .slice A8_ m8_ c8_]) x1 ∧ (PInv z n.toNat p1 x1 m1) ∧ k = m1.toNat) rfl rfl ⟨_, 1, z, n, t528, x530, A531, m532, c533, t560, x562, A563, m564, c565, q552, p427, p433, p522, p553, h556, n557, n558, n559, rfl, T537, b541, f544, b542, f546, b543, f549, b561, f567, PInv.start hz0n hn0, rfl⟩ ?_
  rintro k y568 v568 ⟨p1, x1, m1, ty7, b7_, A7_, m7_, c7_, ty8, b8_, A8_, m8_, c8_, g8_, p569, p570, p571, p572, h573, n574, n575, n576, p577, T578, b579, f580, b581, f582, b583, f584, b585, f586, hJ, hk⟩
  have hlit : litv 51 y568 = #[y568 0, y568 1, y568 2, y568 3, y568 4, y568 5, y568 6, y568 7, y568 8, y568 9, y568 10, y568 11, y568 12, y568 13, y568 14, y568 15, y568 16, y568 17, y568 18, y568 19, y568 20, y568 21, y568 22, y568 23, y568 24, y568 25, y568 26, y568 27, y568 28, y568 29, y568 30, y568 31, y568 32, y568 33, y568 34, y568 35, y568 36, y568 37, y568 38, y568 39, y568 40, y568 41, y568 42, y568 43, y568 44, y568 45, y568 46, y568 47, y568 48, y568 49, y568 50] := rfl
  rw [hlit]
  clear hlit
  have sm := hJ.small
  have lp := len_mono sm.1 LA
  have lx := len_mono sm.2 LA
  rcases hJ.ways with ⟨e1, e2, e3⟩ | ⟨e1, e2, e3⟩ | ⟨e1, e2, e3⟩
  · skip
    refine wp_seq ?_
    refine wp_block ?_
    refine wp_seq ?_
    refine wp_seq ?_
    have HB : w.heap.size ≤ v568.heap.size := T578.size
    refine wp_plan_seq [.val (.is (.int .i64 m1)), .val (.is (.int .i64 (m1 % 2))), .val (.is (.bool true))] [] [] w.heap.size (by kernel_rfl) (by kernel_rfl) trivial HB ?_ ?_
    · exact ⟨fun s v h => does_val rfl rfl (x_move) ((h.same 1 rfl).trans p577),
      fun s v h => does_val rfl rfl (x_and1 (h.dep 0 rfl) rfl) rfl,
      fun s v h => does_val rfl rfl (x_eql_int (h.dep 1 rfl) rfl) (congrArg Value.bool e1), trivial⟩
    intro g587 ts v587 hts E587
    simp only [fillL, Nat.reduceAdd, List.setIfInBounds_toArray, List.set_cons_zero, List.set_cons_succ] at hts
    subst hts
    have T588 : Below w.heap.size w v587 := T578.trans E587.below
    have l589 : q426 < v568.heap.size := b579.lt
    have l590 : q432 < v568.heap.size := b581.lt
    have l591 : q521 < v568.heap.size := b583.lt
    have l592 : g8_ < v568.heap.size := b585.lt
    have b593 : Bx v587 q426 24 #[.bool na0, .slice A0 n0 c0] := (E587.far q426 b579.lt (by simp)).trans b579
    have b594 : Bx v587 q432 24 #[.bool false, .slice none 0 0] := (E587.far q432 b581.lt (by simp)).trans b581
    have b595 : Bx v587 q521 ty7 #[.bool b7_, .slice A7_ m7_ c7_] := (E587.far q521 b583.lt (by simp)).trans b583
    have b596 : Bx v587 g8_ ty8 #[.bool b8_, .slice A8_ m8_ c8_] := (E587.far g8_ b585.lt (by simp)).trans b585
    have f597 := f580.mono E587.mono
    have f598 := f582.mono E587.mono
    have f599 := f584.mono E587.mono
    have f600 := f586.mono E587.mono
    have e601 : g587 0 = (.int .i64 m1) := E587.facts 0 (by decide)
    have e602 : g587 1 = (.int .i64 (m1 % 2)) := E587.facts 1 (by decide)
    have e603 : g587 2 = (.bool true) := E587.facts 2 (by decide)
    refine then_normal ?_
    refine wp_cond_true e603 ?_
    have HB : w.heap.size ≤ v587.heap.size := T588.size
    refine wp_plan_seq [.val (.cz p1), .val (.cz x1), .val (.cz (p1 * x1)), .put 7 44] [7] [q521] w.heap.size (by kernel_rfl) (by kernel_rfl) ⟨p571, b595.lt, (by simp), trivial⟩ HB ?_ ?_
    · exact ⟨fun s v h => does_val rfl rfl (x_load_z ((h.same 7 rfl).trans p571) ((h.held 3 7 44 _ rfl rfl rfl p571).trans b595)) (f599.mono h.mono),
      fun s v h => does_val rfl rfl (x_load_z ((h.same 8 rfl).trans p572) ((h.far g8_ b596.lt (nin1 n576.symm)).trans b596)) (f600.mono h.mono),
      fun s v h => does_call rfl rfl (x_call2 Try.call16) (mul_k ((h.dep 0 rfl).az (N := 2049) lp) ((h.dep 1 rfl).az (N := 2049) lx) (by omega) (by omega)),
      fun s v h => does_put_z rfl rfl ((h.same 7 rfl).trans p571) (h.dep 2 rfl).shape (h.mono.ok _ _ b595.ok2) h525, trivial⟩
    intro g604 ts v604 hts E604
    simp only [fillL, Nat.reduceAdd, List.setIfInBounds_toArray, List.set_cons_zero, List.set_cons_succ] at hts
    subst hts
    have T605 : Below w.heap.size w v604 := T588.trans E604.below
    have l606 : q426 < v587.heap.size := b593.lt
    have l607 : q432 < v587.heap.size := b594.lt
    have l608 : q521 < v587.heap.size := b595.lt
    have l609 : g8_ < v587.heap.size := b596.lt
    have b610 : Bx v604 q426 24 #[.bool na0, .slice A0 n0 c0] := (E604.far q426 b593.lt (nin1 n526)).trans b593
    have b611 : Bx v604 q432 24 #[.bool false, .slice none 0 0] := (E604.far q432 b594.lt (nin1 n527)).trans b594
    have b612 : Bx v604 g8_ ty8 #[.bool b8_, .slice A8_ m8_ c8_] := (E604.far g8_ b596.lt (nin1 n576.symm)).trans b596
    have f613 := f597.mono E604.mono
    have f614 := f598.mono E604.mono
    have f615 := f599.mono E604.mono
    have f616 := f600.mono E604.mono
    have f617 : Cz v604 (g604 0) p1 := E604.facts 0 (by decide)
    have f618 : Cz v604 (g604 1) x1 := E604.facts 1 (by decide)
    have f619 : Cz v604 (g604 2) (p1 * x1) := E604.facts 2 (by decide)
    obtain ⟨t620, x622, A623, m624, c625, e626, b621⟩ := put_info (E604.facts 3 (by decide)) p571 f619.shape
    have f627 : Cz v604 (.agg #[.bool x622, .slice A623 m624 c625]) (p1 * x1) := f619.at e626.symm
    refine then_normal ?_
    refine wp_seq ?_
    have HB : w.heap.size ≤ v604.heap.size := T605.size
    refine wp_plan_seq [.val (.is (.int .i64 m1)), .val (.is (.int .i64 (m1 / 2))), .val (.is (.int .i64 (m1 / 2)))] [] [] w.heap.size (by kernel_rfl) (by kernel_rfl) trivial HB ?_ ?_
    · exact ⟨fun s v h => does_val rfl rfl (x_move) ((h.soon 2 1 rfl rfl).trans p577),
      fun s v h => does_val rfl rfl (x_shr1 (h.dep 0 rfl) rfl) rfl,
      fun s v h => does_val rfl rfl (x_assign) (h.dep 1 rfl), trivial⟩
    intro g628 ts v628 hts E628
    simp only [fillL, Nat.reduceAdd, List.setIfInBounds_toArray, List.set_cons_zero, List.set_cons_succ] at hts
    subst hts
    have T629 : Below w.heap.size w v628 := T605.trans E628.below
    have l630 : q426 < v604.heap.size := b610.lt
    have l631 : q432 < v604.heap.size := b611.lt
    have l632 : q521 < v604.heap.size := b621.lt
    have l633 : g8_ < v604.heap.size := b612.lt
    have b634 : Bx v628 q426 24 #[.bool na0, .slice A0 n0 c0] := (E628.far q426 b610.lt (by simp)).trans b610
    have b635 : Bx v628 q432 24 #[.bool false, .slice none 0 0] := (E628.far q432 b611.lt (by simp)).trans b611
    have b636 : Bx v628 q521 t620 #[.bool x622, .slice A623 m624 c625] := (E628.far q521 b621.lt (by simp)).trans b621
    have b637 : Bx v628 g8_ ty8 #[.bool b8_, .slice A8_ m8_ c8_] := (E628.far g8_ b612.lt (by simp)).trans b612
    have f638 := f613.mono E628.mono
    have f639 := f614.mono E628.mono
    have f640 := f615.mono E628.mono
    have f641 := f616.mono E628.mono
    have f642 := f617.mono E628.mono
    have f643 := f618.mono E628.mono
    have f644 := f619.mono E628.mono
    have f645 := f627.mono E628.mono
    have e646 : g628 0 = (.int .i64 m1) := E628.facts 0 (by decide)
    have e647 : g628 1 = (.int .i64 (m1 / 2)) := E628.facts 1 (by decide)
    have e648 : g628 2 = (.int .i64 (m1 / 2)) := E628.facts 2 (by decide)
    refine then_normal ?_
    refine wp_seq ?_
    have HB : w.heap.size ≤ v628.heap.size := T629.size
    refine wp_plan_seq [.val (.is (.int .i64 (m1 / 2))), .val (.is (.bool true))] [] [] w.heap.size (by kernel_rfl) (by kernel_rfl) trivial HB ?_ ?_
    · exact ⟨fun s v h => does_val rfl rfl (x_move) ((h.same 1 rfl).trans e648),
      fun s v h => does_val rfl rfl (x_eql_int (h.dep 0 rfl) rfl) (congrArg Value.bool e2), trivial⟩
    intro g649 ts v649 hts E649
    simp only [fillL, Nat.reduceAdd, List.setIfInBounds_toArray, List.set_cons_zero, List.set_cons_succ] at hts
    subst hts
    have T650 : Below w.heap.size w v649 := T629.trans E649.below
    have l651 : q426 < v628.heap.size := b634.lt
    have l652 : q432 < v628.heap.size := b635.lt
    have l653 : q521 < v628.heap.size := b636.lt
    have l654 : g8_ < v628.heap.size := b637.lt
    have b655 : Bx v649 q426 24 #[.bool na0, .slice A0 n0 c0] := (E649.far q426 b634.lt (by simp)).trans b634
    have b656 : Bx v649 q432 24 #[.bool false, .slice none 0 0] := (E649.far q432 b635.lt (by simp)).trans b635
    have b657 : Bx v649 q521 t620 #[.bool x622, .slice A623 m624 c625] := (E649.far q521 b636.lt (by simp)).trans b636
    have b658 : Bx v649 g8_ ty8 #[.bool b8_, .slice A8_ m8_ c8_] := (E649.far g8_ b637.lt (by simp)).trans b637
    have f659 := f638.mono E649.mono
    have f660 := f639.mono E649.mono
    have f661 := f640.mono E649.mono
    have f662 := f641.mono E649.mono
    have f663 := f642.mono E649.mono
    have f664 := f643.mono E649.mono
    have f665 := f644.mono E649.mono
    have f666 := f645.mono E649.mono
    have e667 : g649 0 = (.int .i64 (m1 / 2)) := E649.facts 0 (by decide)
    have e668 : g649 1 = (.bool true) := E649.facts 1 (by decide)
    refine then_normal ?_
    refine wp_cond_true e668 ?_
    refine wp_seq ?_
    have HB : w.heap.size ≤ v649.heap.size := T650.size
    refine wp_plan_seq [.val (.cz (p1 * x1)), .put 4 49, .val (.is (.int .i64 0))] [4] [q432] w.heap.size (by kernel_rfl) (by kernel_rfl) ⟨p570, b656.lt, (by simp), trivial⟩ HB ?_ ?_
    · exact ⟨fun s v h => does_val rfl rfl (x_load_z ((h.same 7 rfl).trans p571) ((h.far q521 b657.lt (nin1 n527.symm)).trans b657)) (f666.mono h.mono),
      fun s v h => does_put_z rfl rfl ((h.same 4 rfl).trans p570) (h.dep 0 rfl).shape (h.mono.ok _ _ b656.ok2) h438,
      fun s v h => does_val rfl rfl (x_assign) rfl, trivial⟩
    intro g669 ts v669 hts E669
    simp only [fillL, Nat.reduceAdd, List.setIfInBounds_toArray, List.set_cons_zero, List.set_cons_succ] at hts
    subst hts
    have T670 : Below w.heap.size w v669 := T650.trans E669.below
    have l671 : q426 < v649.heap.size := b655.lt
    have l672 : q432 < v649.heap.size := b656.lt
    have l673 : q521 < v649.heap.size := b657.lt
    have l674 : g8_ < v649.heap.size := b658.lt
    have b675 : Bx v669 q426 24 #[.bool na0, .slice A0 n0 c0] := (E669.far q426 b655.lt (nin1 n439)).trans b655
    have b676 : Bx v669 q521 t620 #[.bool x622, .slice A623 m624 c625] := (E669.far q521 b657.lt (nin1 n527.symm)).trans b657
    have b677 : Bx v669 g8_ ty8 #[.bool b8_, .slice A8_ m8_ c8_] := (E669.far g8_ b658.lt (nin1 n575.symm)).trans b658
    have f678 := f659.mono E669.mono
    have f679 := f660.mono E669.mono
    have f680 := f661.mono E669.mono
    have f681 := f662.mono E669.mono
    have f682 := f663.mono E669.mono
    have f683 := f664.mono E669.mono
    have f684 := f665.mono E669.mono
    have f685 := f666.mono E669.mono
    have f686 : Cz v669 (g669 0) (p1 * x1) := E669.facts 0 (by decide)
    have e687 : g669 2 = (.int .i64 0) := E669.facts 2 (by decide)
    obtain ⟨t688, x690, A691, m692, c693, e694, b689⟩ := put_info (E669.facts 1 (by decide)) p570 f686.shape
    have f695 : Cz v669 (.agg #[.bool x690, .slice A691 m692 c693]) (p1 * x1) := f686.at e694.symm
    refine then_normal ?_
    refine wp_ret ?_
    exact bodyPost_ret (ret_ct rfl p570 b689) rfl ⟨_, rfl, ⟨_, _, rfl, (by have := f695; rw [e3] at this; exact this), e687⟩, T670⟩
  · skip
    refine wp_seq ?_
    refine wp_block ?_
    refine wp_seq ?_
    refine wp_seq ?_
    have HB : w.heap.size ≤ v568.heap.size := T578.size
    refine wp_plan_seq [.val (.is (.int .i64 m1)), .val (.is (.int .i64 (m1 % 2))), .val (.is (.bool true))] [] [] w.heap.size (by kernel_rfl) (by kernel_rfl) trivial HB ?_ ?_
    · exact ⟨fun s v h => does_val rfl rfl (x_move) ((h.same 1 rfl).trans p577),
      fun s v h => does_val rfl rfl (x_and1 (h.dep 0 rfl) rfl) rfl,
      fun s v h => does_val rfl rfl (x_eql_int (h.dep 1 rfl) rfl) (congrArg Value.bool e1), trivial⟩
    intro g696 ts v696 hts E696
    simp only [fillL, Nat.reduceAdd, List.setIfInBounds_toArray, List.set_cons_zero, List.set_cons_succ] at hts
    subst hts
    have T697 : Below w.heap.size w v696 := T578.trans E696.below
    have l698 : q426 < v568.heap.size := b579.lt
    have l699 : q432 < v568.heap.size := b581.lt
    have l700 : q521 < v568.heap.size := b583.lt
    have l701 : g8_ < v568.heap.size := b585.lt
    have b702 : Bx v696 q426 24 #[.bool na0, .slice A0 n0 c0] := (E696.far q426 b579.lt (by simp)).trans b579
    have b703 : Bx v696 q432 24 #[.bool false, .slice none 0 0] := (E696.far q432 b581.lt (by simp)).trans b581
    have b704 : Bx v696 q521 ty7 #[.bool b7_, .slice A7_ m7_ c7_] := (E696.far q521 b583.lt (by simp)).trans b583
    have b705 : Bx v696 g8_ ty8 #[.bool b8_, .slice A8_ m8_ c8_] := (E696.far g8_ b585.lt (by simp)).trans b585
    have f706 := f580.mono E696.mono
    have f707 := f582.mono E696.mono
    have f708 := f584.mono E696.mono
    have f709 := f586.mono E696.mono
    have e710 : g696 0 = (.int .i64 m1) := E696.facts 0 (by decide)
    have e711 : g696 1 = (.int .i64 (m1 % 2)) := E696.facts 1 (by decide)
    have e712 : g696 2 = (.bool true) := E696.facts 2 (by decide)
    refine then_normal ?_
    refine wp_cond_true e712 ?_
    have HB : w.heap.size ≤ v696.heap.size := T697.size
    refine wp_plan_seq [.val (.cz p1), .val (.cz x1), .val (.cz (p1 * x1)), .put 7 44] [7] [q521] w.heap.size (by kernel_rfl) (by kernel_rfl) ⟨p571, b704.lt, (by simp), trivial⟩ HB ?_ ?_
    · exact ⟨fun s v h => does_val rfl rfl (x_load_z ((h.same 7 rfl).trans p571) ((h.held 3 7 44 _ rfl rfl rfl p571).trans b704)) (f708.mono h.mono),
      fun s v h => does_val rfl rfl (x_load_z ((h.same 8 rfl).trans p572) ((h.far g8_ b705.lt (nin1 n576.symm)).trans b705)) (f709.mono h.mono),
      fun s v h => does_call rfl rfl (x_call2 Try.call16) (mul_k ((h.dep 0 rfl).az (N := 2049) lp) ((h.dep 1 rfl).az (N := 2049) lx) (by omega) (by omega)),
      fun s v h => does_put_z rfl rfl ((h.same 7 rfl).trans p571) (h.dep 2 rfl).shape (h.mono.ok _ _ b704.ok2) h525, trivial⟩
    intro g713 ts v713 hts E713
    simp only [fillL, Nat.reduceAdd, List.setIfInBounds_toArray, List.set_cons_zero, List.set_cons_succ] at hts
    subst hts
    have T714 : Below w.heap.size w v713 := T697.trans E713.below
    have l715 : q426 < v696.heap.size := b702.lt
    have l716 : q432 < v696.heap.size := b703.lt
    have l717 : q521 < v696.heap.size := b704.lt
    have l718 : g8_ < v696.heap.size := b705.lt
    have b719 : Bx v713 q426 24 #[.bool na0, .slice A0 n0 c0] := (E713.far q426 b702.lt (nin1 n526)).trans b702
    have b720 : Bx v713 q432 24 #[.bool false, .slice none 0 0] := (E713.far q432 b703.lt (nin1 n527)).trans b703
    have b721 : Bx v713 g8_ ty8 #[.bool b8_, .slice A8_ m8_ c8_] := (E713.far g8_ b705.lt (nin1 n576.symm)).trans b705
    have f722 := f706.mono E713.mono
    have f723 := f707.mono E713.mono
    have f724 := f708.mono E713.mono
    have f725 := f709.mono E713.mono
    have f726 : Cz v713 (g713 0) p1 := E713.facts 0 (by decide)
    have f727 : Cz v713 (g713 1) x1 := E713.facts 1 (by decide)
    have f728 : Cz v713 (g713 2) (p1 * x1) := E713.facts 2 (by decide)
    obtain ⟨t729, x731, A732, m733, c734, e735, b730⟩ := put_info (E713.facts 3 (by decide)) p571 f728.shape
    have f736 : Cz v713 (.agg #[.bool x731, .slice A732 m733 c734]) (p1 * x1) := f728.at e735.symm
    refine then_normal ?_
    refine wp_seq ?_
    have HB : w.heap.size ≤ v713.heap.size := T714.size
    refine wp_plan_seq [.val (.is (.int .i64 m1)), .val (.is (.int .i64 (m1 / 2))), .val (.is (.int .i64 (m1 / 2)))] [] [] w.heap.size (by kernel_rfl) (by kernel_rfl) trivial HB ?_ ?_
    · exact ⟨fun s v h => does_val rfl rfl (x_move) ((h.soon 2 1 rfl rfl).trans p577),
      fun s v h => does_val rfl rfl (x_shr1 (h.dep 0 rfl) rfl) rfl,
      fun s v h => does_val rfl rfl (x_assign) (h.dep 1 rfl), trivial⟩
    intro g737 ts v737 hts E737
    simp only [fillL, Nat.reduceAdd, List.setIfInBounds_toArray, List.set_cons_zero, List.set_cons_succ] at hts
    subst hts
    have T738 : Below w.heap.size w v737 := T714.trans E737.below
    have l739 : q426 < v713.heap.size := b719.lt
    have l740 : q432 < v713.heap.size := b720.lt
    have l741 : q521 < v713.heap.size := b730.lt
    have l742 : g8_ < v713.heap.size := b721.lt
    have b743 : Bx v737 q426 24 #[.bool na0, .slice A0 n0 c0] := (E737.far q426 b719.lt (by simp)).trans b719
    have b744 : Bx v737 q432 24 #[.bool false, .slice none 0 0] := (E737.far q432 b720.lt (by simp)).trans b720
    have b745 : Bx v737 q521 t729 #[.bool x731, .slice A732 m733 c734] := (E737.far q521 b730.lt (by simp)).trans b730
    have b746 : Bx v737 g8_ ty8 #[.bool b8_, .slice A8_ m8_ c8_] := (E737.far g8_ b721.lt (by simp)).trans b721
    have f747 := f722.mono E737.mono
    have f748 := f723.mono E737.mono
    have f749 := f724.mono E737.mono
    have f750 := f725.mono E737.mono
    have f751 := f726.mono E737.mono
    have f752 := f727.mono E737.mono
    have f753 := f728.mono E737.mono
    have f754 := f736.mono E737.mono
    have e755 : g737 0 = (.int .i64 m1) := E737.facts 0 (by decide)
    have e756 : g737 1 = (.int .i64 (m1 / 2)) := E737.facts 1 (by decide)
    have e757 : g737 2 = (.int .i64 (m1 / 2)) := E737.facts 2 (by decide)
    refine then_normal ?_
    refine wp_seq ?_
    have HB : w.heap.size ≤ v737.heap.size := T738.size
    refine wp_plan_seq [.val (.is (.int .i64 (m1 / 2))), .val (.is (.bool false))] [] [] w.heap.size (by kernel_rfl) (by kernel_rfl) trivial HB ?_ ?_
    · exact ⟨fun s v h => does_val rfl rfl (x_move) ((h.same 1 rfl).trans e757),
      fun s v h => does_val rfl rfl (x_eql_int (h.dep 0 rfl) rfl) (congrArg Value.bool e2), trivial⟩
    intro g758 ts v758 hts E758
    simp only [fillL, Nat.reduceAdd, List.setIfInBounds_toArray, List.set_cons_zero, List.set_cons_succ] at hts
    subst hts
    have T759 : Below w.heap.size w v758 := T738.trans E758.below
    have l760 : q426 < v737.heap.size := b743.lt
    have l761 : q432 < v737.heap.size := b744.lt
    have l762 : q521 < v737.heap.size := b745.lt
    have l763 : g8_ < v737.heap.size := b746.lt
    have b764 : Bx v758 q426 24 #[.bool na0, .slice A0 n0 c0] := (E758.far q426 b743.lt (by simp)).trans b743
    have b765 : Bx v758 q432 24 #[.bool false, .slice none 0 0] := (E758.far q432 b744.lt (by simp)).trans b744
    have b766 : Bx v758 q521 t729 #[.bool x731, .slice A732 m733 c734] := (E758.far q521 b745.lt (by simp)).trans b745
    have b767 : Bx v758 g8_ ty8 #[.bool b8_, .slice A8_ m8_ c8_] := (E758.far g8_ b746.lt (by simp)).trans b746
    have f768 := f747.mono E758.mono
    have f769 := f748.mono E758.mono
    have f770 := f749.mono E758.mono
    have f771 := f750.mono E758.mono
    have f772 := f751.mono E758.mono
    have f773 := f752.mono E758.mono
    have f774 := f753.mono E758.mono
    have f775 := f754.mono E758.mono
    have e776 : g758 0 = (.int .i64 (m1 / 2)) := E758.facts 0 (by decide)
    have e777 : g758 1 = (.bool false) := E758.facts 1 (by decide)
    refine then_normal ?_
    refine wp_cond_false e777 ?_
    refine wp_skip ?_
    refine block_normal ?_
    refine then_normal ?_
    refine wp_seq ?_
    refine wp_seq ?_
    have HB : w.heap.size ≤ v758.heap.size := T759.size
    refine wp_plan_seq [.val (.cz x1)] [] [] w.heap.size (by kernel_rfl) (by kernel_rfl) trivial HB ?_ ?_
    · exact ⟨fun s v h => does_val rfl rfl (x_load_z ((h.same 8 rfl).trans p572) ((h.far g8_ b767.lt (by simp)).trans b767)) (f771.mono h.mono), trivial⟩
    intro g778 ts v778 hts E778
    simp only [fillL, List.setIfInBounds_toArray, List.set_cons_zero, List.set_cons_succ] at hts
    subst hts
    have T779 : Below w.heap.size w v778 := T759.trans E778.below
    have l780 : q426 < v758.heap.size := b764.lt
    have l781 : q432 < v758.heap.size := b765.lt
    have l782 : q521 < v758.heap.size := b766.lt
    have l783 : g8_ < v758.heap.size := b767.lt
    have b784 : Bx v778 q426 24 #[.bool na0, .slice A0 n0 c0] := (E778.far q426 b764.lt (by simp)).trans b764
    have b785 : Bx v778 q432 24 #[.bool false, .slice none 0 0] := (E778.far q432 b765.lt (by simp)).trans b765
    have b786 : Bx v778 q521 t729 #[.bool x731, .slice A732 m733 c734] := (E778.far q521 b766.lt (by simp)).trans b766
    have b787 : Bx v778 g8_ ty8 #[.bool b8_, .slice A8_ m8_ c8_] := (E778.far g8_ b767.lt (by simp)).trans b767
    have f788 := f768.mono E778.mono
    have f789 := f769.mono E778.mono
    have f790 := f770.mono E778.mono
    have f791 := f771.mono E778.mono
    have f792 := f772.mono E778.mono
    have f793 := f773.mono E778.mono
    have f794 := f774.mono E778.mono
    have f795 := f775.mono E778.mono
    have f796 : Cz v778 (g778 0) x1 := E778.facts 0 (by decide)
    refine then_normal ?_
    have HB : w.heap.size ≤ v778.heap.size := T779.size
    refine wp_plan_seq [.new 2 none, .put 8 50] [] [] w.heap.size (by kernel_rfl) (by kernel_rfl) trivial HB ?_ ?_
    · exact ⟨fun s v h => does_new rfl rfl x_alloc_z (okz _ _ _ _) rfl (.inl rfl),
      fun s v h => by obtain ⟨q, e1, e2, e3⟩ := new_at (h.dep 0 rfl); exact does_put_z rfl rfl e1 ((f796.mono h.mono).at (h.same 50 rfl)).shape e3 (Nat.le_trans HB e2), trivial⟩
    intro g797 ts v797 hts E797
    simp only [fillL, List.setIfInBounds_toArray, List.set_cons_zero, List.set_cons_succ] at hts
    subst hts
    have T798 : Below w.heap.size w v797 := T779.trans E797.below
    have l799 : q426 < v778.heap.size := b784.lt
    have l800 : q432 < v778.heap.size := b785.lt
    have l801 : q521 < v778.heap.size := b786.lt
    have l802 : g8_ < v778.heap.size := b787.lt
    have b803 : Bx v797 q426 24 #[.bool na0, .slice A0 n0 c0] := (E797.far q426 b784.lt (by simp)).trans b784
    have b804 : Bx v797 q432 24 #[.bool false, .slice none 0 0] := (E797.far q432 b785.lt (by simp)).trans b785
    have b805 : Bx v797 q521 t729 #[.bool x731, .slice A732 m733 c734] := (E797.far q521 b786.lt (by simp)).trans b786
    have b806 : Bx v797 g8_ ty8 #[.bool b8_, .slice A8_ m8_ c8_] := (E797.far g8_ b787.lt (by simp)).trans b787
    have f807 := f788.mono E797.mono
    have f808 := f789.mono E797.mono
    have f809 := f790.mono E797.mono
    have f810 := f791.mono E797.mono
    have f811 := f792.mono E797.mono
    have f812 := f793.mono E797.mono
    have f813 := f794.mono E797.mono
    have f814 := f795.mono E797.mono
    have f815 := f796.mono E797.mono
    obtain ⟨q816, p817, l818, o819⟩ : ∃ q, g797 0 = .pointer (some ⟨q, 0, none⟩) ∧ v778.heap.size ≤ q ∧ OkB v797 q 2 := E797.facts 0 (by decide)
    have h820 : w.heap.size ≤ q816 := Nat.le_trans HB l818
    have n821 : q426 ≠ q816 := by omega
    have n822 : q432 ≠ q816 := by omega
    have n823 : q521 ≠ q816 := by omega
    have n824 : g8_ ≠ q816 := by omega
    obtain ⟨t825, x827, A828, m829, c830, e831, b826⟩ := put_info (E797.facts 1 (by decide)) p817 f815.shape
    have f832 : Cz v797 (.agg #[.bool x827, .slice A828 m829 c830]) x1 := f815.at e831.symm
    refine then_normal ?_
    have HB : w.heap.size ≤ v797.heap.size := T798.size
    refine wp_plan_seq [.val (.cz x1), .val (.cz x1), .val (.cz (x1 * x1)), .put 8 38] [8] [q816] w.heap.size (by kernel_rfl) (by kernel_rfl) ⟨p817, b826.lt, (by simp), trivial⟩ HB ?_ ?_
    · exact ⟨fun s v h => does_val rfl rfl (x_load_z ((h.same 8 rfl).trans p817) ((h.held 3 8 38 _ rfl rfl rfl p817).trans b826)) (f832.mono h.mono),
      fun s v h => does_val rfl rfl (x_load_z ((h.same 8 rfl).trans p817) ((h.held 3 8 38 _ rfl rfl rfl p817).trans b826)) (f832.mono h.mono),
      fun s v h => does_call rfl rfl (x_call2 Try.call16) (mul_k ((h.dep 0 rfl).az (N := 2049) lx) ((h.dep 1 rfl).az (N := 2049) lx) (by omega) (by omega)),
      fun s v h => does_put_z rfl rfl ((h.same 8 rfl).trans p817) (h.dep 2 rfl).shape (h.mono.ok _ _ b826.ok2) h820, trivial⟩
    intro g833 ts v833 hts E833
    simp only [fillL, Nat.reduceAdd, List.setIfInBounds_toArray, List.set_cons_zero, List.set_cons_succ] at hts
    subst hts
    have T834 : Below w.heap.size w v833 := T798.trans E833.below
    have l835 : q426 < v797.heap.size := b803.lt
    have l836 : q432 < v797.heap.size := b804.lt
    have l837 : q521 < v797.heap.size := b805.lt
    have l838 : g8_ < v797.heap.size := b806.lt
    have l839 : q816 < v797.heap.size := b826.lt
    have b840 : Bx v833 q426 24 #[.bool na0, .slice A0 n0 c0] := (E833.far q426 b803.lt (nin1 n821)).trans b803
    have b841 : Bx v833 q432 24 #[.bool false, .slice none 0 0] := (E833.far q432 b804.lt (nin1 n822)).trans b804
    have b842 : Bx v833 q521 t729 #[.bool x731, .slice A732 m733 c734] := (E833.far q521 b805.lt (nin1 n823)).trans b805
    have b843 : Bx v833 g8_ ty8 #[.bool b8_, .slice A8_ m8_ c8_] := (E833.far g8_ b806.lt (nin1 n824)).trans b806
    have f844 := f807.mono E833.mono
    have f845 := f808.mono E833.mono
    have f846 := f809.mono E833.mono
    have f847 := f810.mono E833.mono
    have f848 := f811.mono E833.mono
    have f849 := f812.mono E833.mono
    have f850 := f813.mono E833.mono
    have f851 := f814.mono E833.mono
    have f852 := f815.mono E833.mono
    have f853 := f832.mono E833.mono
    have f854 : Cz v833 (g833 0) x1 := E833.facts 0 (by decide)
    have f855 : Cz v833 (g833 1) x1 := E833.facts 1 (by decide)
    have f856 : Cz v833 (g833 2) (x1 * x1) := E833.facts 2 (by decide)
    obtain ⟨t857, x859, A860, m861, c862, e863, b858⟩ := put_info (E833.facts 3 (by decide)) p817 f856.shape
    have f864 : Cz v833 (.agg #[.bool x859, .slice A860 m861 c862]) (x1 * x1) := f856.at e863.symm
    refine then_normal ?_
    exact ⟨rfl, rfl, _, (by rw [hk]; have := hJ.pos; omega), (p1 * x1), (x1 * x1), (m1 / 2), t729, x731, A732, m733, c734, t857, x859, A860, m861, c862, q816, p569, p570, p571, p817, h820, n821, n822, n823, e757, T834, b840, f844, b841, f845, b842, f851, b858, f864, e3, rfl⟩
  · skip
    refine wp_seq ?_
    refine wp_block ?_
    refine wp_seq ?_
    refine wp_seq ?_
    have HB : w.heap.size ≤ v568.heap.size := T578.size
    refine wp_plan_seq [.val (.is (.int .i64 m1)), .val (.is (.int .i64 (m1 % 2))), .val (.is (.bool false))] [] [] w.heap.size (by kernel_rfl) (by kernel_rfl) trivial HB ?_ ?_
    · exact ⟨fun s v h => does_val rfl rfl (x_move) ((h.same 1 rfl).trans p577),
      fun s v h => does_val rfl rfl (x_and1 (h.dep 0 rfl) rfl) rfl,
      fun s v h => does_val rfl rfl (x_eql_int (h.dep 1 rfl) rfl) (congrArg Value.bool e1), trivial⟩
    intro g865 ts v865 hts E865
    simp only [fillL, Nat.reduceAdd, List.setIfInBounds_toArray, List.set_cons_zero, List.set_cons_succ] at hts
    subst hts
    have T866 : Below w.heap.size w v865 := T578.trans E865.below
    have l867 : q426 < v568.heap.size := b579.lt
    have l868 : q432 < v568.heap.size := b581.lt
    have l869 : q521 < v568.heap.size := b583.lt
    have l870 : g8_ < v568.heap.size := b585.lt
    have b871 : Bx v865 q426 24 #[.bool na0, .slice A0 n0 c0] := (E865.far q426 b579.lt (by simp)).trans b579
    have b872 : Bx v865 q432 24 #[.bool false, .slice none 0 0] := (E865.far q432 b581.lt (by simp)).trans b581
    have b873 : Bx v865 q521 ty7 #[.bool b7_, .slice A7_ m7_ c7_] := (E865.far q521 b583.lt (by simp)).trans b583
    have b874 : Bx v865 g8_ ty8 #[.bool b8_, .slice A8_ m8_ c8_] := (E865.far g8_ b585.lt (by simp)).trans b585
    have f875 := f580.mono E865.mono
    have f876 := f582.mono E865.mono
    have f877 := f584.mono E865.mono
    have f878 := f586.mono E865.mono
    have e879 : g865 0 = (.int .i64 m1) := E865.facts 0 (by decide)
    have e880 : g865 1 = (.int .i64 (m1 % 2)) := E865.facts 1 (by decide)
    have e881 : g865 2 = (.bool false) := E865.facts 2 (by decide)
    refine then_normal ?_
    refine wp_cond_false e881 ?_
    refine wp_skip ?_
    refine then_normal ?_
    refine wp_seq ?_
    have HB : w.heap.size ≤ v865.heap.size := T866.size
    refine wp_plan_seq [.val (.is (.int .i64 m1)), .val (.is (.int .i64 (m1 / 2))), .val (.is (.int .i64 (m1 / 2)))] [] [] w.heap.size (by kernel_rfl) (by kernel_rfl) trivial HB ?_ ?_
    · exact ⟨fun s v h => does_val rfl rfl (x_move) ((h.soon 2 1 rfl rfl).trans p577),
      fun s v h => does_val rfl rfl (x_shr1 (h.dep 0 rfl) rfl) rfl,
      fun s v h => does_val rfl rfl (x_assign) (h.dep 1 rfl), trivial⟩
    intro g882 ts v882 hts E882
    simp only [fillL, Nat.reduceAdd, List.setIfInBounds_toArray, List.set_cons_zero, List.set_cons_succ] at hts
    subst hts
    have T883 : Below w.heap.size w v882 := T866.trans E882.below
    have l884 : q426 < v865.heap.size := b871.lt
    have l885 : q432 < v865.heap.size := b872.lt
    have l886 : q521 < v865.heap.size := b873.lt
    have l887 : g8_ < v865.heap.size := b874.lt
    have b888 : Bx v882 q426 24 #[.bool na0, .slice A0 n0 c0] := (E882.far q426 b871.lt (by simp)).trans b871
    have b889 : Bx v882 q432 24 #[.bool false, .slice none 0 0] := (E882.far q432 b872.lt (by simp)).trans b872
    have b890 : Bx v882 q521 ty7 #[.bool b7_, .slice A7_ m7_ c7_] := (E882.far q521 b873.lt (by simp)).trans b873
    have b891 : Bx v882 g8_ ty8 #[.bool b8_, .slice A8_ m8_ c8_] := (E882.far g8_ b874.lt (by simp)).trans b874
    have f892 := f875.mono E882.mono
    have f893 := f876.mono E882.mono
    have f894 := f877.mono E882.mono
    have f895 := f878.mono E882.mono
    have e896 : g882 0 = (.int .i64 m1) := E882.facts 0 (by decide)
    have e897 : g882 1 = (.int .i64 (m1 / 2)) := E882.facts 1 (by decide)
    have e898 : g882 2 = (.int .i64 (m1 / 2)) := E882.facts 2 (by decide)
    refine then_normal ?_
    refine wp_seq ?_
    have HB : w.heap.size ≤ v882.heap.size := T883.size
    refine wp_plan_seq [.val (.is (.int .i64 (m1 / 2))), .val (.is (.bool false))] [] [] w.heap.size (by kernel_rfl) (by kernel_rfl) trivial HB ?_ ?_
    · exact ⟨fun s v h => does_val rfl rfl (x_move) ((h.same 1 rfl).trans e898),
      fun s v h => does_val rfl rfl (x_eql_int (h.dep 0 rfl) rfl) (congrArg Value.bool e2), trivial⟩
    intro g899 ts v899 hts E899
    simp only [fillL, Nat.reduceAdd, List.setIfInBounds_toArray, List.set_cons_zero, List.set_cons_succ] at hts
    subst hts
    have T900 : Below w.heap.size w v899 := T883.trans E899.below
    have l901 : q426 < v882.heap.size := b888.lt
    have l902 : q432 < v882.heap.size := b889.lt
    have l903 : q521 < v882.heap.size := b890.lt
    have l904 : g8_ < v882.heap.size := b891.lt
    have b905 : Bx v899 q426 24 #[.bool na0, .slice A0 n0 c0] := (E899.far q426 b888.lt (by simp)).trans b888
    have b906 : Bx v899 q432 24 #[.bool false, .slice none 0 0] := (E899.far q432 b889.lt (by simp)).trans b889
    have b907 : Bx v899 q521 ty7 #[.bool b7_, .slice A7_ m7_ c7_] := (E899.far q521 b890.lt (by simp)).trans b890
    have b908 : Bx v899 g8_ ty8 #[.bool b8_, .slice A8_ m8_ c8_] := (E899.far g8_ b891.lt (by simp)).trans b891
    have f909 := f892.mono E899.mono
    have f910 := f893.mono E899.mono
    have f911 := f894.mono E899.mono
    have f912 := f895.mono E899.mono
    have e913 : g899 0 = (.int .i64 (m1 / 2)) := E899.facts 0 (by decide)
    have e914 : g899 1 = (.bool false) := E899.facts 1 (by decide)
    refine then_normal ?_
    refine wp_cond_false e914 ?_
    refine wp_skip ?_
    refine block_normal ?_
    refine then_normal ?_
    refine wp_seq ?_
    refine wp_seq ?_
    have HB : w.heap.size ≤ v899.heap.size := T900.size
    refine wp_plan_seq [.val (.cz x1)] [] [] w.heap.size (by kernel_rfl) (by kernel_rfl) trivial HB ?_ ?_
    · exact ⟨fun s v h => does_val rfl rfl (x_load_z ((h.same 8 rfl).trans p572) ((h.far g8_ b908.lt (by simp)).trans b908)) (f912.mono h.mono), trivial⟩
    intro g915 ts v915 hts E915
    simp only [fillL, List.setIfInBounds_toArray, List.set_cons_zero, List.set_cons_succ] at hts
    subst hts
    have T916 : Below w.heap.size w v915 := T900.trans E915.below
    have l917 : q426 < v899.heap.size := b905.lt
    have l918 : q432 < v899.heap.size := b906.lt
    have l919 : q521 < v899.heap.size := b907.lt
    have l920 : g8_ < v899.heap.size := b908.lt
    have b921 : Bx v915 q426 24 #[.bool na0, .slice A0 n0 c0] := (E915.far q426 b905.lt (by simp)).trans b905
    have b922 : Bx v915 q432 24 #[.bool false, .slice none 0 0] := (E915.far q432 b906.lt (by simp)).trans b906
    have b923 : Bx v915 q521 ty7 #[.bool b7_, .slice A7_ m7_ c7_] := (E915.far q521 b907.lt (by simp)).trans b907
    have b924 : Bx v915 g8_ ty8 #[.bool b8_, .slice A8_ m8_ c8_] := (E915.far g8_ b908.lt (by simp)).trans b908
    have f925 := f909.mono E915.mono
    have f926 := f910.mono E915.mono
    have f927 := f911.mono E915.mono
    have f928 := f912.mono E915.mono
    have f929 : Cz v915 (g915 0) x1 := E915.facts 0 (by decide)
    refine then_normal ?_
    have HB : w.heap.size ≤ v915.heap.size := T916.size
    refine wp_plan_seq [.new 2 none, .put 8 50] [] [] w.heap.size (by kernel_rfl) (by kernel_rfl) trivial HB ?_ ?_
    · exact ⟨fun s v h => does_new rfl rfl x_alloc_z (okz _ _ _ _) rfl (.inl rfl),
      fun s v h => by obtain ⟨q, e1, e2, e3⟩ := new_at (h.dep 0 rfl); exact does_put_z rfl rfl e1 ((f929.mono h.mono).at (h.same 50 rfl)).shape e3 (Nat.le_trans HB e2), trivial⟩
    intro g930 ts v930 hts E930
    simp only [fillL, List.setIfInBounds_toArray, List.set_cons_zero, List.set_cons_succ] at hts
    subst hts
    have T931 : Below w.heap.size w v930 := T916.trans E930.below
    have l932 : q426 < v915.heap.size := b921.lt
    have l933 : q432 < v915.heap.size := b922.lt
    have l934 : q521 < v915.heap.size := b923.lt
    have l935 : g8_ < v915.heap.size := b924.lt
    have b936 : Bx v930 q426 24 #[.bool na0, .slice A0 n0 c0] := (E930.far q426 b921.lt (by simp)).trans b921
    have b937 : Bx v930 q432 24 #[.bool false, .slice none 0 0] := (E930.far q432 b922.lt (by simp)).trans b922
    have b938 : Bx v930 q521 ty7 #[.bool b7_, .slice A7_ m7_ c7_] := (E930.far q521 b923.lt (by simp)).trans b923
    have b939 : Bx v930 g8_ ty8 #[.bool b8_, .slice A8_ m8_ c8_] := (E930.far g8_ b924.lt (by simp)).trans b924
    have f940 := f925.mono E930.mono
    have f941 := f926.mono E930.mono
    have f942 := f927.mono E930.mono
    have f943 := f928.mono E930.mono
    have f944 := f929.mono E930.mono
    obtain ⟨q945, p946, l947, o948⟩ : ∃ q, g930 0 = .pointer (some ⟨q, 0, none⟩) ∧ v915.heap.size ≤ q ∧ OkB v930 q 2 := E930.facts 0 (by decide)
    have h949 : w.heap.size ≤ q945 := Nat.le_trans HB l947
    have n950 : q426 ≠ q945 := by omega
    have n951 : q432 ≠ q945 := by omega
    have n952 : q521 ≠ q945 := by omega
    have n953 : g8_ ≠ q945 := by omega
    obtain ⟨t954, x956, A957, m958, c959, e960, b955⟩ := put_info (E930.facts 1 (by decide)) p946 f944.shape
    have f961 : Cz v930 (.agg #[.bool x956, .slice A957 m958 c959]) x1 := f944.at e960.symm
    refine then_normal ?_
    have HB : w.heap.size ≤ v930.heap.size := T931.size
    refine wp_plan_seq [.val (.cz x1), .val (.cz x1), .val (.cz (x1 * x1)), .put 8 38] [8] [q945] w.heap.size (by kernel_rfl) (by kernel_rfl) ⟨p946, b955.lt, (by simp), trivial⟩ HB ?_ ?_
    · exact ⟨fun s v h => does_val rfl rfl (x_load_z ((h.same 8 rfl).trans p946) ((h.held 3 8 38 _ rfl rfl rfl p946).trans b955)) (f961.mono h.mono),
      fun s v h => does_val rfl rfl (x_load_z ((h.same 8 rfl).trans p946) ((h.held 3 8 38 _ rfl rfl rfl p946).trans b955)) (f961.mono h.mono),
      fun s v h => does_call rfl rfl (x_call2 Try.call16) (mul_k ((h.dep 0 rfl).az (N := 2049) lx) ((h.dep 1 rfl).az (N := 2049) lx) (by omega) (by omega)),
      fun s v h => does_put_z rfl rfl ((h.same 8 rfl).trans p946) (h.dep 2 rfl).shape (h.mono.ok _ _ b955.ok2) h949, trivial⟩
    intro g962 ts v962 hts E962
    simp only [fillL, Nat.reduceAdd, List.setIfInBounds_toArray, List.set_cons_zero, List.set_cons_succ] at hts
    subst hts
    have T963 : Below w.heap.size w v962 := T931.trans E962.below
    have l964 : q426 < v930.heap.size := b936.lt
    have l965 : q432 < v930.heap.size := b937.lt
    have l966 : q521 < v930.heap.size := b938.lt
    have l967 : g8_ < v930.heap.size := b939.lt
    have l968 : q945 < v930.heap.size := b955.lt
    have b969 : Bx v962 q426 24 #[.bool na0, .slice A0 n0 c0] := (E962.far q426 b936.lt (nin1 n950)).trans b936
    have b970 : Bx v962 q432 24 #[.bool false, .slice none 0 0] := (E962.far q432 b937.lt (nin1 n951)).trans b937
    have b971 : Bx v962 q521 ty7 #[.bool b7_, .slice A7_ m7_ c7_] := (E962.far q521 b938.lt (nin1 n952)).trans b938
    have b972 : Bx v962 g8_ ty8 #[.bool b8_, .slice A8_ m8_ c8_] := (E962.far g8_ b939.lt (nin1 n953)).trans b939
    have f973 := f940.mono E962.mono
    have f974 := f941.mono E962.mono
    have f975 := f942.mono E962.mono
    have f976 := f943.mono E962.mono
    have f977 := f944.mono E962.mono
    have f978 := f961.mono E962.mono
    have f979 : Cz v962 (g962 0) x1 := E962.facts 0 (by decide)
    have f980 : Cz v962 (g962 1) x1 := E962.facts 1 (by decide)
    have f981 : Cz v962 (g962 2) (x1 * x1) := E962.facts 2 (by decide)
    obtain ⟨t982, x984, A985, m986, c987, e988, b983⟩ := put_info (E962.facts 3 (by decide)) p946 f981.shape
    have f989 : Cz v962 (.agg #[.bool x984, .slice A985 m986 c987]) (x1 * x1) := f981.at e988.symm
    refine then_normal ?_
    exact ⟨rfl, rfl, _, (by rw [hk]; have := hJ.pos; omega), p1, (x1 * x1), (m1 / 2), ty7, b7_, A7_, m7_, c7_, t982, x984, A985, m986, c987, q945, p569, p570, p571, p946, h949, n950, n951, n952, e898, T963, b969, f973, b970, f974, b971, f975, b983, f989, e3, rfl⟩

set_option maxHeartbeats 4000000 in
set_option maxRecDepth 8000 in
theorem rpow_a {w : World} {x : Value} {z : Int} {N0 : Nat} (h0 : Az N0 w x z) {n : Int} (hN0 : N0 ≤ 1000000000) (d1 : decide (n < 0) = true)  : Calls Try.prog 36 #[x, .int .i64 n] w (Ret (.tup2 (.cz 0) (.is (.int .i64 1))) w) := by
  have _u := hN0
  have la0 := h0.len
  obtain ⟨na0, A0, n0, c0, M0, rfl, hm0, hz0⟩ := h0.parts
  have hbl := blen_bits la0
  have T0 : Below w.heap.size w w := Below.refl _ _
  go_enter Try.func36, Try.ntmps36
  refine wp_seq ?_
  have HB : w.heap.size ≤ w.heap.size := T0.size
  refine wp_plan_seq [.new 2 (some (24, #[.bool na0, .slice A0 n0 c0])), .new 2 (some (24, #[.bool false, .slice none 0 0])), .val (.is (.int .i64 0))] [] [] w.heap.size (by kernel_rfl) (by kernel_rfl) trivial HB ?_ ?_
  · exact ⟨fun s v h => does_new rfl rfl (x_box_z (h.same 0 rfl)) (okz _ _ _ _) rfl (.inr rfl),
      fun s v h => does_new rfl rfl x_alloc_z (okz _ _ _ _) rfl (.inr rfl),
      fun s v h => does_val rfl rfl (x_assign) rfl, trivial⟩
  intro g990 ts v990 hts E990
  simp only [fillL, Nat.reduceAdd, List.setIfInBounds_toArray, List.set_cons_zero, List.set_cons_succ] at hts
  subst hts
  have T991 : Below w.heap.size w v990 := T0.trans E990.below
  have f992 := h0.mono E990.mono
  have f993 := hm0.mono E990.mono
  have e994 : g990 2 = (.int .i64 0) := E990.facts 2 (by decide)
  obtain ⟨q995, p996, l997, o998, b999⟩ : ∃ q, g990 0 = .pointer (some ⟨q, 0, none⟩) ∧ w.heap.size ≤ q ∧ OkB v990 q 2 ∧ Bx v990 q 24 #[.bool na0, .slice A0 n0 c0] := E990.facts 0 (by decide)
  have h1000 : w.heap.size ≤ q995 := Nat.le_trans HB l997
  obtain ⟨q1001, p1002, l1003, o1004, b1005⟩ : ∃ q, g990 1 = .pointer (some ⟨q, 0, none⟩) ∧ w.heap.size ≤ q ∧ OkB v990 q 2 ∧ Bx v990 q 24 #[.bool false, .slice none 0 0] := E990.facts 1 (by decide)
  have f1006 : Cz v990 (.agg #[.bool false, .slice none 0 0]) 0 := cz_zero _
  have h1007 : w.heap.size ≤ q1001 := Nat.le_trans HB l1003
  have n1008 : q995 ≠ q1001 := apart_ne (E990.apart 0 1 (by decide) (by decide) (by decide) ⟨_, _, rfl⟩ ⟨_, _, rfl⟩) p996 p1002
  refine then_normal ?_
  refine wp_seq ?_
  refine wp_seq ?_
  have HB : w.heap.size ≤ v990.heap.size := T991.size
  refine wp_plan_seq [.val (.is (.int .i64 n)), .val (.is (.bool true))] [] [] w.heap.size (by kernel_rfl) (by kernel_rfl) trivial HB ?_ ?_
  · exact ⟨fun s v h => does_val rfl rfl (x_move) (h.same 1 rfl),
      fun s v h => does_val rfl rfl (x_lss (h.dep 0 rfl) rfl) (congrArg Value.bool d1), trivial⟩
  intro g1009 ts v1009 hts E1009
  simp only [fillL, Nat.reduceAdd, List.setIfInBounds_toArray, List.set_cons_zero, List.set_cons_succ] at hts
  subst hts
  have T1010 : Below w.heap.size w v1009 := T991.trans E1009.below
  have l1011 : q995 < v990.heap.size := b999.lt
  have l1012 : q1001 < v990.heap.size := b1005.lt
  have b1013 : Bx v1009 q995 24 #[.bool na0, .slice A0 n0 c0] := (E1009.far q995 b999.lt (by simp)).trans b999
  have b1014 : Bx v1009 q1001 24 #[.bool false, .slice none 0 0] := (E1009.far q1001 b1005.lt (by simp)).trans b1005
  have f1015 := f992.mono E1009.mono
  have f1016 := f993.mono E1009.mono
  have f1017 := f1006.mono E1009.mono
  have e1018 : g1009 0 = (.int .i64 n) := E1009.facts 0 (by decide)
  have e1019 : g1009 1 = (.bool true) := E1009.facts 1 (by decide)
  refine then_normal ?_
  refine wp_cond_true e1019 ?_
  refine wp_seq ?_
  have HB : w.heap.size ≤ v1009.heap.size := T1010.size
  refine wp_plan_seq [.val (.is (.agg #[.bool false, .slice none 0 0])), .put 4 10, .val (.is (.int .i64 1))] [4] [q1001] w.heap.size (by kernel_rfl) (by kernel_rfl) ⟨p1002, b1014.lt, (by simp), trivial⟩ HB ?_ ?_
  · exact ⟨fun s v h => does_val rfl rfl x_build0 rfl,
      fun s v h => does_put_z rfl rfl ((h.same 4 rfl).trans p1002) ⟨_, _, _, _, (h.dep 0 rfl)⟩ (h.mono.ok _ _ b1014.ok2) h1007,
      fun s v h => does_val rfl rfl (x_assign) rfl, trivial⟩
  intro g1020 ts v1020 hts E1020
  simp only [fillL, Nat.reduceAdd, List.setIfInBounds_toArray, List.set_cons_zero, List.set_cons_succ] at hts
  subst hts
  have T1021 : Below w.heap.size w v1020 := T1010.trans E1020.below
  have l1022 : q995 < v1009.heap.size := b1013.lt
  have l1023 : q1001 < v1009.heap.size := b1014.lt
  have b1024 : Bx v1020 q995 24 #[.bool na0, .slice A0 n0 c0] := (E1020.far q995 b1013.lt (nin1 n1008)).trans b1013
  have f1025 := f1015.mono E1020.mono
  have f1026 := f1016.mono E1020.mono
  have f1027 := f1017.mono E1020.mono
  have e1028 : g1020 0 = (.agg #[.bool false, .slice none 0 0]) := E1020.facts 0 (by decide)
  have e1029 : g1020 2 = (.int .i64 1) := E1020.facts 2 (by decide)
  obtain ⟨t1030, b1031⟩ := put_lit (E1020.facts 1 (by decide)) p1002 e1028
  have f1032 : Cz v1020 (.agg #[.bool false, .slice none 0 0]) 0 := cz_zero _
  refine then_normal ?_
  refine wp_ret ?_
  exact bodyPost_ret (ret_ct rfl p1002 b1031) rfl ⟨_, rfl, ⟨_, _, rfl, f1032, e1029⟩, T1021⟩

set_option maxHeartbeats 4000000 in
set_option maxRecDepth 8000 in
theorem rpow_b {w : World} {x : Value} {z : Int} {N0 : Nat} (h0 : Az N0 w x z) {n : Int} (hN0 : N0 ≤ 1000000000) (d1 : decide (n < 0) = false) (d2 : decide ((0 : Int) < (blen z.natAbs : Int)) = true) (d3 : decide ((65536 / (blen z.natAbs : Int)) < n) = true)  : Calls Try.prog 36 #[x, .int .i64 n] w (Ret (.tup2 (.cz 0) (.is (.int .i64 2))) w) := by
  have _u := hN0
  have la0 := h0.len
  obtain ⟨na0, A0, n0, c0, M0, rfl, hm0, hz0⟩ := h0.parts
  have hbl := blen_bits la0
  have T0 : Below w.heap.size w w := Below.refl _ _
  go_enter Try.func36, Try.ntmps36
  refine wp_seq ?_
  have HB : w.heap.size ≤ w.heap.size := T0.size
  refine wp_plan_seq [.new 2 (some (24, #[.bool na0, .slice A0 n0 c0])), .new 2 (some (24, #[.bool false, .slice none 0 0])), .val (.is (.int .i64 0))] [] [] w.heap.size (by kernel_rfl) (by kernel_rfl) trivial HB ?_ ?_
  · exact ⟨fun s v h => does_new rfl rfl (x_box_z (h.same 0 rfl)) (okz _ _ _ _) rfl (.inr rfl),
      fun s v h => does_new rfl rfl x_alloc_z (okz _ _ _ _) rfl (.inr rfl),
      fun s v h => does_val rfl rfl (x_assign) rfl, trivial⟩
  intro g1033 ts v1033 hts E1033
  simp only [fillL, Nat.reduceAdd, List.setIfInBounds_toArray, List.set_cons_zero, List.set_cons_succ] at hts
  subst hts
  have T1034 : Below w.heap.size w v1033 := T0.trans E1033.below
  have f1035 := h0.mono E1033.mono
  have f1036 := hm0.mono E1033.mono
  have e1037 : g1033 2 = (.int .i64 0) := E1033.facts 2 (by decide)
  obtain ⟨q1038, p1039, l1040, o1041, b1042⟩ : ∃ q, g1033 0 = .pointer (some ⟨q, 0, none⟩) ∧ w.heap.size ≤ q ∧ OkB v1033 q 2 ∧ Bx v1033 q 24 #[.bool na0, .slice A0 n0 c0] := E1033.facts 0 (by decide)
  have h1043 : w.heap.size ≤ q1038 := Nat.le_trans HB l1040
  obtain ⟨q1044, p1045, l1046, o1047, b1048⟩ : ∃ q, g1033 1 = .pointer (some ⟨q, 0, none⟩) ∧ w.heap.size ≤ q ∧ OkB v1033 q 2 ∧ Bx v1033 q 24 #[.bool false, .slice none 0 0] := E1033.facts 1 (by decide)
  have f1049 : Cz v1033 (.agg #[.bool false, .slice none 0 0]) 0 := cz_zero _
  have h1050 : w.heap.size ≤ q1044 := Nat.le_trans HB l1046
  have n1051 : q1038 ≠ q1044 := apart_ne (E1033.apart 0 1 (by decide) (by decide) (by decide) ⟨_, _, rfl⟩ ⟨_, _, rfl⟩) p1039 p1045
  refine then_normal ?_
  refine wp_seq ?_
  refine wp_seq ?_
  have HB : w.heap.size ≤ v1033.heap.size := T1034.size
  refine wp_plan_seq [.val (.is (.int .i64 n)), .val (.is (.bool false))] [] [] w.heap.size (by kernel_rfl) (by kernel_rfl) trivial HB ?_ ?_
  · exact ⟨fun s v h => does_val rfl rfl (x_move) (h.same 1 rfl),
      fun s v h => does_val rfl rfl (x_lss (h.dep 0 rfl) rfl) (congrArg Value.bool d1), trivial⟩
  intro g1052 ts v1052 hts E1052
  simp only [fillL, Nat.reduceAdd, List.setIfInBounds_toArray, List.set_cons_zero, List.set_cons_succ] at hts
  subst hts
  have T1053 : Below w.heap.size w v1052 := T1034.trans E1052.below
  have l1054 : q1038 < v1033.heap.size := b1042.lt
  have l1055 : q1044 < v1033.heap.size := b1048.lt
  have b1056 : Bx v1052 q1038 24 #[.bool na0, .slice A0 n0 c0] := (E1052.far q1038 b1042.lt (by simp)).trans b1042
  have b1057 : Bx v1052 q1044 24 #[.bool false, .slice none 0 0] := (E1052.far q1044 b1048.lt (by simp)).trans b1048
  have f1058 := f1035.mono E1052.mono
  have f1059 := f1036.mono E1052.mono
  have f1060 := f1049.mono E1052.mono
  have e1061 : g1052 0 = (.int .i64 n) := E1052.facts 0 (by decide)
  have e1062 : g1052 1 = (.bool false) := E1052.facts 1 (by decide)
  refine then_normal ?_
  refine wp_cond_false e1062 ?_
  refine wp_skip ?_
  refine then_normal ?_
  refine wp_seq ?_
  refine wp_seq ?_
  have HB : w.heap.size ≤ v1052.heap.size := T1053.size
  refine wp_plan_seq [.val (.az N0 z), .val (.is (.int .i64 (blen z.natAbs))), .val (.is (.bool true)), .val (.is (.bool true)), .val (.is (.int .i64 n)), .val (.az N0 z), .val (.is (.int .i64 (blen z.natAbs))), .val (.is (.int .i64 (65536 / (blen z.natAbs : Int)))), .val (.is (.bool true)), .val (.is (.bool true))] [] [] w.heap.size (by kernel_rfl) (by kernel_rfl) trivial HB ?_ ?_
  · exact ⟨fun s v h => does_val rfl rfl (x_load_z ((h.same 2 rfl).trans p1039) ((h.far q1038 b1056.lt (by simp)).trans b1056)) (f1058.mono h.mono),
      fun s v h => does_call rfl rfl (x_call1 Try.call21) (r2bits_k (h.dep 0 rfl)),
      fun s v h => does_val rfl rfl (x_gtr (h.dep 1 rfl) rfl) (congrArg Value.bool d2),
      fun s v h => does_val rfl rfl (x_move) (h.dep 2 rfl),
      fun s v h => does_val rfl (wanted_by (b := true) (want := true) rfl rfl (h.dep 3 rfl)) (x_move) (h.same 1 rfl),
      fun s v h => does_val rfl (wanted_by (b := true) (want := true) rfl rfl (h.dep 3 rfl)) (x_load_z ((h.same 2 rfl).trans p1039) ((h.far q1038 b1056.lt (by simp)).trans b1056)) (f1058.mono h.mono),
      fun s v h => does_call rfl (wanted_by (b := true) (want := true) rfl rfl (h.dep 3 rfl)) (x_call1 Try.call21) (r2bits_k (h.dep 5 rfl)),
      fun s v h => does_val rfl (wanted_by (b := true) (want := true) rfl rfl (h.dep 3 rfl)) (x_quo rfl (h.dep 6 rfl) (by decide) (by decide) (by have := of_decide_eq_true d2; omega) (by omega)) rfl,
      fun s v h => does_val rfl (wanted_by (b := true) (want := true) rfl rfl (h.dep 3 rfl)) (x_gtr (h.dep 4 rfl) (h.dep 7 rfl)) (congrArg Value.bool d3),
      fun s v h => does_val rfl rfl (x_pick (h.dep 3 rfl)) (h.dep 8 rfl), trivial⟩
  intro g1063 ts v1063 hts E1063
  simp only [fillL, Nat.reduceAdd, List.setIfInBounds_toArray, List.set_cons_zero, List.set_cons_succ] at hts
  subst hts
  have T1064 : Below w.heap.size w v1063 := T1053.trans E1063.below
  have l1065 : q1038 < v1052.heap.size := b1056.lt
  have l1066 : q1044 < v1052.heap.size := b1057.lt
  have b1067 : Bx v1063 q1038 24 #[.bool na0, .slice A0 n0 c0] := (E1063.far q1038 b1056.lt (by simp)).trans b1056
  have b1068 : Bx v1063 q1044 24 #[.bool false, .slice none 0 0] := (E1063.far q1044 b1057.lt (by simp)).trans b1057
  have f1069 := f1058.mono E1063.mono
  have f1070 := f1059.mono E1063.mono
  have f1071 := f1060.mono E1063.mono
  have f1072 : Az N0 v1063 (g1063 0) z := E1063.facts 0 (by decide)
  have e1073 : g1063 1 = (.int .i64 (blen z.natAbs)) := E1063.facts 1 (by decide)
  have e1074 : g1063 2 = (.bool true) := E1063.facts 2 (by decide)
  have e1075 : g1063 3 = (.bool true) := E1063.facts 3 (by decide)
  have e1076 : g1063 4 = (.int .i64 n) := E1063.facts 4 (by decide)
  have f1077 : Az N0 v1063 (g1063 5) z := E1063.facts 5 (by decide)
  have e1078 : g1063 6 = (.int .i64 (blen z.natAbs)) := E1063.facts 6 (by decide)
  have e1079 : g1063 7 = (.int .i64 (65536 / (blen z.natAbs : Int))) := E1063.facts 7 (by decide)
  have e1080 : g1063 8 = (.bool true) := E1063.facts 8 (by decide)
  have e1081 : g1063 9 = (.bool true) := E1063.facts 9 (by decide)
  refine then_normal ?_
  refine wp_cond_true e1081 ?_
  refine wp_seq ?_
  have HB : w.heap.size ≤ v1063.heap.size := T1064.size
  refine wp_plan_seq [.val (.is (.agg #[.bool false, .slice none 0 0])), .put 4 21, .val (.is (.int .i64 2))] [4] [q1044] w.heap.size (by kernel_rfl) (by kernel_rfl) ⟨p1045, b1068.lt, (by simp), trivial⟩ HB ?_ ?_
  · exact ⟨fun s v h => does_val rfl rfl x_build0 rfl,
      fun s v h => does_put_z rfl rfl ((h.same 4 rfl).trans p1045) ⟨_, _, _, _, (h.dep 0 rfl)⟩ (h.mono.ok _ _ b1068.ok2) h1050,
      fun s v h => does_val rfl rfl (x_assign) rfl, trivial⟩
  intro g1082 ts v1082 hts E1082
  simp only [fillL, Nat.reduceAdd, List.setIfInBounds_toArray, List.set_cons_zero, List.set_cons_succ] at hts
  subst hts
  have T1083 : Below w.heap.size w v1082 := T1064.trans E1082.below
  have l1084 : q1038 < v1063.heap.size := b1067.lt
  have l1085 : q1044 < v1063.heap.size := b1068.lt
  have b1086 : Bx v1082 q1038 24 #[.bool na0, .slice A0 n0 c0] := (E1082.far q1038 b1067.lt (nin1 n1051)).trans b1067
  have f1087 := f1069.mono E1082.mono
  have f1088 := f1070.mono E1082.mono
  have f1089 := f1071.mono E1082.mono
  have f1090 := f1072.mono E1082.mono
  have f1091 := f1077.mono E1082.mono
  have e1092 : g1082 0 = (.agg #[.bool false, .slice none 0 0]) := E1082.facts 0 (by decide)
  have e1093 : g1082 2 = (.int .i64 2) := E1082.facts 2 (by decide)
  obtain ⟨t1094, b1095⟩ := put_lit (E1082.facts 1 (by decide)) p1045 e1092
  have f1096 : Cz v1082 (.agg #[.bool false, .slice none 0 0]) 0 := cz_zero _
  refine then_normal ?_
  refine wp_ret ?_
  exact bodyPost_ret (ret_ct rfl p1045 b1095) rfl ⟨_, rfl, ⟨_, _, rfl, f1096, e1093⟩, T1083⟩

set_option maxHeartbeats 4000000 in
set_option maxRecDepth 8000 in
theorem rpow_c {w : World} {x : Value} {z : Int} {N0 : Nat} (h0 : Az N0 w x z) {n : Int} (hN0 : N0 ≤ 1000000000) (hn0 : 0 ≤ n) (hn1 : n ≤ 9223372036854775806) (HP : ∀ i : Int, 0 ≤ i → i ≤ n → (digs (z ^ i.toNat).natAbs).length ≤ 2049) (d1 : decide (n < 0) = false) (d2 : decide ((0 : Int) < (blen z.natAbs : Int)) = true) (d3 : decide ((65536 / (blen z.natAbs : Int)) < n) = false) (d6 : (z.sign == 0) = false)  : Calls Try.prog 36 #[x, .int .i64 n] w (Ret (.tup2 (.cz (z ^ n.toNat)) (.is (.int .i64 0))) w) := by
  have _u := hN0
  have la0 := h0.len
  obtain ⟨na0, A0, n0, c0, M0, rfl, hm0, hz0⟩ := h0.parts
  have hbl := blen_bits la0
  have T0 : Below w.heap.size w w := Below.refl _ _
  go_enter Try.func36, Try.ntmps36
  refine wp_seq ?_
  have HB : w.heap.size ≤ w.heap.size := T0.size
  refine wp_plan_seq [.new 2 (some (24, #[.bool na0, .slice A0 n0 c0])), .new 2 (some (24, #[.bool false, .slice none 0 0])), .val (.is (.int .i64 0))] [] [] w.heap.size (by kernel_rfl) (by kernel_rfl) trivial HB ?_ ?_
  · exact ⟨fun s v h => does_new rfl rfl (x_box_z (h.same 0 rfl)) (okz _ _ _ _) rfl (.inr rfl),
      fun s v h => does_new rfl rfl x_alloc_z (okz _ _ _ _) rfl (.inr rfl),
      fun s v h => does_val rfl rfl (x_assign) rfl, trivial⟩
  intro g1097 ts v1097 hts E1097
  simp only [fillL, Nat.reduceAdd, List.setIfInBounds_toArray, List.set_cons_zero, List.set_cons_succ] at hts
  subst hts
  have T1098 : Below w.heap.size w v1097 := T0.trans E1097.below
  have f1099 := h0.mono E1097.mono
  have f1100 := hm0.mono E1097.mono
  have e1101 : g1097 2 = (.int .i64 0) := E1097.facts 2 (by decide)
  obtain ⟨q1102, p1103, l1104, o1105, b1106⟩ : ∃ q, g1097 0 = .pointer (some ⟨q, 0, none⟩) ∧ w.heap.size ≤ q ∧ OkB v1097 q 2 ∧ Bx v1097 q 24 #[.bool na0, .slice A0 n0 c0] := E1097.facts 0 (by decide)
  have h1107 : w.heap.size ≤ q1102 := Nat.le_trans HB l1104
  obtain ⟨q1108, p1109, l1110, o1111, b1112⟩ : ∃ q, g1097 1 = .pointer (some ⟨q, 0, none⟩) ∧ w.heap.size ≤ q ∧ OkB v1097 q 2 ∧ Bx v1097 q 24 #[.bool false, .slice none 0 0] := E1097.facts 1 (by decide)
  have f1113 : Cz v1097 (.agg #[.bool false, .slice none 0 0]) 0 := cz_zero _
  have h1114 : w.heap.size ≤ q1108 := Nat.le_trans HB l1110
  have n1115 : q1102 ≠ q1108 := apart_ne (E1097.apart 0 1 (by decide) (by decide) (by decide) ⟨_, _, rfl⟩ ⟨_, _, rfl⟩) p1103 p1109
  refine then_normal ?_
  refine wp_seq ?_
  refine wp_seq ?_
  have HB : w.heap.size ≤ v1097.heap.size := T1098.size
  refine wp_plan_seq [.val (.is (.int .i64 n)), .val (.is (.bool false))] [] [] w.heap.size (by kernel_rfl) (by kernel_rfl) trivial HB ?_ ?_
  · exact ⟨fun s v h => does_val rfl rfl (x_move) (h.same 1 rfl),
      fun s v h => does_val rfl rfl (x_lss (h.dep 0 rfl) rfl) (congrArg Value.bool d1), trivial⟩
  intro g1116 ts v1116 hts E1116
  simp only [fillL, Nat.reduceAdd, List.setIfInBounds_toArray, List.set_cons_zero, List.set_cons_succ] at hts
  subst hts
  have T1117 : Below w.heap.size w v1116 := T1098.trans E1116.below
  have l1118 : q1102 < v1097.heap.size := b1106.lt
  have l1119 : q1108 < v1097.heap.size := b1112.lt
  have b1120 : Bx v1116 q1102 24 #[.bool na0, .slice A0 n0 c0] := (E1116.far q1102 b1106.lt (by simp)).trans b1106
  have b1121 : Bx v1116 q1108 24 #[.bool false, .slice none 0 0] := (E1116.far q1108 b1112.lt (by simp)).trans b1112
  have f1122 := f1099.mono E1116.mono
  have f1123 := f1100.mono E1116.mono
  have f1124 := f1113.mono E1116.mono
  have e1125 : g1116 0 = (.int .i64 n) := E1116.facts 0 (by decide)
  have e1126 : g1116 1 = (.bool false) := E1116.facts 1 (by decide)
  refine then_normal ?_
  refine wp_cond_false e1126 ?_
  refine wp_skip ?_
  refine then_normal ?_
  refine wp_seq ?_
  refine wp_seq ?_
  have HB : w.heap.size ≤ v1116.heap.size := T1117.size
  refine wp_plan_seq [.val (.az N0 z), .val (.is (.int .i64 (blen z.natAbs))), .val (.is (.bool true)), .val (.is (.bool true)), .val (.is (.int .i64 n)), .val (.az N0 z), .val (.is (.int .i64 (blen z.natAbs))), .val (.is (.int .i64 (65536 / (blen z.natAbs : Int)))), .val (.is (.bool false)), .val (.is (.bool false))] [] [] w.heap.size (by kernel_rfl) (by kernel_rfl) trivial HB ?_ ?_
  · exact ⟨fun s v h => does_val rfl rfl (x_load_z ((h.same 2 rfl).trans p1103) ((h.far q1102 b1120.lt (by simp)).trans b1120)) (f1122.mono h.mono),
      fun s v h => does_call rfl rfl (x_call1 Try.call21) (r2bits_k (h.dep 0 rfl)),
      fun s v h => does_val rfl rfl (x_gtr (h.dep 1 rfl) rfl) (congrArg Value.bool d2),
      fun s v h => does_val rfl rfl (x_move) (h.dep 2 rfl),
      fun s v h => does_val rfl (wanted_by (b := true) (want := true) rfl rfl (h.dep 3 rfl)) (x_move) (h.same 1 rfl),
      fun s v h => does_val rfl (wanted_by (b := true) (want := true) rfl rfl (h.dep 3 rfl)) (x_load_z ((h.same 2 rfl).trans p1103) ((h.far q1102 b1120.lt (by simp)).trans b1120)) (f1122.mono h.mono),
      fun s v h => does_call rfl (wanted_by (b := true) (want := true) rfl rfl (h.dep 3 rfl)) (x_call1 Try.call21) (r2bits_k (h.dep 5 rfl)),
      fun s v h => does_val rfl (wanted_by (b := true) (want := true) rfl rfl (h.dep 3 rfl)) (x_quo rfl (h.dep 6 rfl) (by decide) (by decide) (by have := of_decide_eq_true d2; omega) (by omega)) rfl,
      fun s v h => does_val rfl (wanted_by (b := true) (want := true) rfl rfl (h.dep 3 rfl)) (x_gtr (h.dep 4 rfl) (h.dep 7 rfl)) (congrArg Value.bool d3),
      fun s v h => does_val rfl rfl (x_pick (h.dep 3 rfl)) (h.dep 8 rfl), trivial⟩
  intro g1127 ts v1127 hts E1127
  simp only [fillL, Nat.reduceAdd, List.setIfInBounds_toArray, List.set_cons_zero, List.set_cons_succ] at hts
  subst hts
  have T1128 : Below w.heap.size w v1127 := T1117.trans E1127.below
  have l1129 : q1102 < v1116.heap.size := b1120.lt
  have l1130 : q1108 < v1116.heap.size := b1121.lt
  have b1131 : Bx v1127 q1102 24 #[.bool na0, .slice A0 n0 c0] := (E1127.far q1102 b1120.lt (by simp)).trans b1120
  have b1132 : Bx v1127 q1108 24 #[.bool false, .slice none 0 0] := (E1127.far q1108 b1121.lt (by simp)).trans b1121
  have f1133 := f1122.mono E1127.mono
  have f1134 := f1123.mono E1127.mono
  have f1135 := f1124.mono E1127.mono
  have f1136 : Az N0 v1127 (g1127 0) z := E1127.facts 0 (by decide)
  have e1137 : g1127 1 = (.int .i64 (blen z.natAbs)) := E1127.facts 1 (by decide)
  have e1138 : g1127 2 = (.bool true) := E1127.facts 2 (by decide)
  have e1139 : g1127 3 = (.bool true) := E1127.facts 3 (by decide)
  have e1140 : g1127 4 = (.int .i64 n) := E1127.facts 4 (by decide)
  have f1141 : Az N0 v1127 (g1127 5) z := E1127.facts 5 (by decide)
  have e1142 : g1127 6 = (.int .i64 (blen z.natAbs)) := E1127.facts 6 (by decide)
  have e1143 : g1127 7 = (.int .i64 (65536 / (blen z.natAbs : Int))) := E1127.facts 7 (by decide)
  have e1144 : g1127 8 = (.bool false) := E1127.facts 8 (by decide)
  have e1145 : g1127 9 = (.bool false) := E1127.facts 9 (by decide)
  refine then_normal ?_
  refine wp_cond_false e1145 ?_
  refine wp_skip ?_
  refine then_normal ?_
  refine wp_seq ?_
  refine wp_seq ?_
  have HB : w.heap.size ≤ v1127.heap.size := T1128.size
  refine wp_plan_seq [.val (.az N0 z), .val (.is (.int .i64 z.sign)), .val (.is (.bool false)), .val (.is (.bool false)), .val .any, .val .any, .val (.is (.bool false))] [] [] w.heap.size (by kernel_rfl) (by kernel_rfl) trivial HB ?_ ?_
  · exact ⟨fun s v h => does_val rfl rfl (x_load_z ((h.same 2 rfl).trans p1103) ((h.far q1102 b1131.lt (by simp)).trans b1131)) (f1133.mono h.mono),
      fun s v h => does_call rfl rfl (x_call1 Try.call28) (r2sign_k (h.dep 0 rfl) (by omega)),
      fun s v h => does_val rfl rfl (x_eql_int (h.dep 1 rfl) rfl) (congrArg Value.bool d6),
      fun s v h => does_val rfl rfl (x_move) (h.dep 2 rfl),
      fun s v h => does_skip rfl (wanted_by (b := false) (want := true) rfl rfl (h.dep 3 rfl)) trivial,
      fun s v h => does_skip rfl (wanted_by (b := false) (want := true) rfl rfl (h.dep 3 rfl)) trivial,
      fun s v h => does_val rfl rfl (x_pick (h.dep 3 rfl)) rfl, trivial⟩
  intro g1146 ts v1146 hts E1146
  simp only [fillL, Nat.reduceAdd, List.setIfInBounds_toArray, List.set_cons_zero, List.set_cons_succ] at hts
  subst hts
  have T1147 : Below w.heap.size w v1146 := T1128.trans E1146.below
  have l1148 : q1102 < v1127.heap.size := b1131.lt
  have l1149 : q1108 < v1127.heap.size := b1132.lt
  have b1150 : Bx v1146 q1102 24 #[.bool na0, .slice A0 n0 c0] := (E1146.far q1102 b1131.lt (by simp)).trans b1131
  have b1151 : Bx v1146 q1108 24 #[.bool false, .slice none 0 0] := (E1146.far q1108 b1132.lt (by simp)).trans b1132
  have f1152 := f1133.mono E1146.mono
  have f1153 := f1134.mono E1146.mono
  have f1154 := f1135.mono E1146.mono
  have f1155 := f1136.mono E1146.mono
  have f1156 := f1141.mono E1146.mono
  have f1157 : Az N0 v1146 (g1146 0) z := E1146.facts 0 (by decide)
  have e1158 : g1146 1 = (.int .i64 z.sign) := E1146.facts 1 (by decide)
  have e1159 : g1146 2 = (.bool false) := E1146.facts 2 (by decide)
  have e1160 : g1146 3 = (.bool false) := E1146.facts 3 (by decide)
  have e1161 : g1146 6 = (.bool false) := E1146.facts 6 (by decide)
  refine then_normal ?_
  refine wp_cond_false e1161 ?_
  refine wp_skip ?_
  refine then_normal ?_
  refine wp_seq ?_
  have HB : w.heap.size ≤ v1146.heap.size := T1147.size
  refine wp_plan_seq [.val (.cz 1), .new 2 none, .put 6 30] [] [] w.heap.size (by kernel_rfl) (by kernel_rfl) trivial HB ?_ ?_
  · exact ⟨fun s v h => does_call rfl rfl (x_call1 Try.call72) (r2of_k rfl (by decide) (by decide)),
      fun s v h => does_new rfl rfl x_alloc_z (okz _ _ _ _) rfl (.inl rfl),
      fun s v h => by obtain ⟨q, e1, e2, e3⟩ := new_at (h.dep 1 rfl); exact does_put_z rfl rfl e1 (h.dep 0 rfl).shape e3 (Nat.le_trans HB e2), trivial⟩
  intro g1162 ts v1162 hts E1162
  simp only [fillL, Nat.reduceAdd, List.setIfInBounds_toArray, List.set_cons_zero, List.set_cons_succ] at hts
  subst hts
  have T1163 : Below w.heap.size w v1162 := T1147.trans E1162.below
  have l1164 : q1102 < v1146.heap.size := b1150.lt
  have l1165 : q1108 < v1146.heap.size := b1151.lt
  have b1166 : Bx v1162 q1102 24 #[.bool na0, .slice A0 n0 c0] := (E1162.far q1102 b1150.lt (by simp)).trans b1150
  have b1167 : Bx v1162 q1108 24 #[.bool false, .slice none 0 0] := (E1162.far q1108 b1151.lt (by simp)).trans b1151
  have f1168 := f1152.mono E1162.mono
  have f1169 := f1153.mono E1162.mono
  have f1170 := f1154.mono E1162.mono
  have f1171 := f1155.mono E1162.mono
  have f1172 := f1156.mono E1162.mono
  have f1173 := f1157.mono E1162.mono
  have f1174 : Cz v1162 (g1162 0) 1 := E1162.facts 0 (by decide)
  obtain ⟨q1175, p1176, l1177, o1178⟩ : ∃ q, g1162 1 = .pointer (some ⟨q, 0, none⟩) ∧ v1146.heap.size ≤ q ∧ OkB v1162 q 2 := E1162.facts 1 (by decide)
  have h1179 : w.heap.size ≤ q1175 := Nat.le_trans HB l1177
  have n1180 : q1102 ≠ q1175 := by omega
  have n1181 : q1108 ≠ q1175 := by omega
  obtain ⟨t1182, x1184, A1185, m1186, c1187, e1188, b1183⟩ := put_info (E1162.facts 2 (by decide)) p1176 f1174.shape
  have f1189 : Cz v1162 (.agg #[.bool x1184, .slice A1185 m1186 c1187]) 1 := f1174.at e1188.symm
  refine then_normal ?_
  refine wp_seq ?_
  refine wp_seq ?_
  have HB : w.heap.size ≤ v1162.heap.size := T1163.size
  refine wp_plan_seq [.val (.is (.int .i64 0))] [] [] w.heap.size (by kernel_rfl) (by kernel_rfl) trivial HB ?_ ?_
  · exact ⟨fun s v h => does_val rfl rfl (x_assign) rfl, trivial⟩
  intro g1190 ts v1190 hts E1190
  simp only [fillL, List.setIfInBounds_toArray, List.set_cons_zero, List.set_cons_succ] at hts
  subst hts
  have T1191 : Below w.heap.size w v1190 := T1163.trans E1190.below
  have l1192 : q1102 < v1162.heap.size := b1166.lt
  have l1193 : q1108 < v1162.heap.size := b1167.lt
  have l1194 : q1175 < v1162.heap.size := b1183.lt
  have b1195 : Bx v1190 q1102 24 #[.bool na0, .slice A0 n0 c0] := (E1190.far q1102 b1166.lt (by simp)).trans b1166
  have b1196 : Bx v1190 q1108 24 #[.bool false, .slice none 0 0] := (E1190.far q1108 b1167.lt (by simp)).trans b1167
  have b1197 : Bx v1190 q1175 t1182 #[.bool x1184, .slice A1185 m1186 c1187] := (E1190.far q1175 b1183.lt (by simp)).trans b1183
  have f1198 := f1168.mono E1190.mono
  have f1199 := f1169.mono E1190.mono
  have f1200 := f1170.mono E1190.mono
  have f1201 := f1171.mono E1190.mono
  have f1202 := f1172.mono E1190.mono
  have f1203 := f1173.mono E1190.mono
  have f1204 := f1174.mono E1190.mono
  have f1205 := f1189.mono E1190.mono
  have e1206 : g1190 0 = (.int .i64 0) := E1190.facts 0 (by decide)
  refine then_normal ?_
  refine wp_block ?_
  refine wp_loop_v 40 (fun k y wL => ∃ (p1 : Int) (i1 : Int) (ty6 : TypeId) (b6_ : Bool) (A6_ : Option Addr) (m6_ c6_ : Nat), y 2 = .pointer (some ⟨q1102, 0, none⟩) ∧ y 4 = .pointer (some ⟨q1108, 0, none⟩) ∧ y 6 = .pointer (some ⟨q1175, 0, none⟩) ∧ y 1 = (.int .i64 n) ∧ y 7 = (.int .i64 i1) ∧ Below w.heap.size w wL ∧ Bx wL q1102 24 #[.bool na0, .slice A0 n0 c0] ∧ Az N0 wL (.agg #[.bool na0, .slice A0 n0 c0]) z ∧ Bx wL q1108 24 #[.bool false, .slice none 0 0] ∧ Cz wL (.agg #[.bool false, .slice none 0 0]) 0 ∧ Bx wL q1175 ty6 #[.bool b6_, .slice A6_ m6_ c6_] ∧ Cz wL (.agg #[.bool b6_, .slice A6_ m6_ c6_]) p1 ∧ (p1 = z ^ i1.toNat ∧ 0 ≤ i1 ∧ i1 ≤ n) ∧ k = (n - i1).toNat) rfl rfl ⟨_, 1, 0, t1182, x1184, A1185, m1186, c1187, p1103, p1109, p1176, rfl, e1206, T1191, b1195, f1198, b1196, f1200, b1197, f1205, ⟨by simp, by omega, by omega⟩, rfl⟩ ?_
  rintro k y1207 v1207 ⟨p1, i1, ty6, b6_, A6_, m6_, c6_, p1208, p1209, p1210, p1211, p1212, T1213, b1214, f1215, b1216, f1217, b1218, f1219, ⟨j1, j2, j3⟩, hk⟩
  have hlit : litv 40 y1207 = #[y1207 0, y1207 1, y1207 2, y1207 3, y1207 4, y1207 5, y1207 6, y1207 7, y1207 8, y1207 9, y1207 10, y1207 11, y1207 12, y1207 13, y1207 14, y1207 15, y1207 16, y1207 17, y1207 18, y1207 19, y1207 20, y1207 21, y1207 22, y1207 23, y1207 24, y1207 25, y1207 26, y1207 27, y1207 28, y1207 29, y1207 30, y1207 31, y1207 32, y1207 33, y1207 34, y1207 35, y1207 36, y1207 37, y1207 38, y1207 39] := rfl
  rw [hlit]
  clear hlit
  have lp := HP i1 j2 j3
  rw [← j1] at lp
  by_cases hlt : i1 < n
  · skip
    have e1 : decide (i1 < n) = true := decide_eq_true hlt
    have e2 : (i1 + 1).toNat = i1.toNat + 1 := by omega
    refine wp_seq ?_
    refine wp_seq ?_
    have HB : w.heap.size ≤ v1207.heap.size := T1213.size
    refine wp_plan_seq [.val (.is (.int .i64 i1)), .val (.is (.int .i64 n)), .val (.is (.bool true))] [] [] w.heap.size (by kernel_rfl) (by kernel_rfl) trivial HB ?_ ?_
    · exact ⟨fun s v h => does_val rfl rfl (x_move) ((h.same 7 rfl).trans p1212),
      fun s v h => does_val rfl rfl (x_move) ((h.same 1 rfl).trans p1211),
      fun s v h => does_val rfl rfl (x_lss (h.dep 0 rfl) (h.dep 1 rfl)) (congrArg Value.bool e1), trivial⟩
    intro g1220 ts v1220 hts E1220
    simp only [fillL, Nat.reduceAdd, List.setIfInBounds_toArray, List.set_cons_zero, List.set_cons_succ] at hts
    subst hts
    have T1221 : Below w.heap.size w v1220 := T1213.trans E1220.below
    have l1222 : q1102 < v1207.heap.size := b1214.lt
    have l1223 : q1108 < v1207.heap.size := b1216.lt
    have l1224 : q1175 < v1207.heap.size := b1218.lt
    have b1225 : Bx v1220 q1102 24 #[.bool na0, .slice A0 n0 c0] := (E1220.far q1102 b1214.lt (by simp)).trans b1214
    have b1226 : Bx v1220 q1108 24 #[.bool false, .slice none 0 0] := (E1220.far q1108 b1216.lt (by simp)).trans b1216
    have b1227 : Bx v1220 q1175 ty6 #[.bool b6_, .slice A6_ m6_ c6_] := (E1220.far q1175 b1218.lt (by simp)).trans b1218
    have f1228 := f1215.mono E1220.mono
    have f1229 := f1217.mono E1220.mono
    have f1230 := f1219.mono E1220.mono
    have e1231 : g1220 0 = (.int .i64 i1) := E1220.facts 0 (by decide)
    have e1232 : g1220 1 = (.int .i64 n) := E1220.facts 1 (by decide)
    have e1233 : g1220 2 = (.bool true) := E1220.facts 2 (by decide)
    refine then_normal ?_
    refine wp_cond_true e1233 ?_
    refine wp_skip ?_
    refine then_normal ?_
    refine wp_seq ?_
    refine wp_block ?_
    have HB : w.heap.size ≤ v1220.heap.size := T1221.size
    refine wp_plan_seq [.val (.cz p1), .val (.az N0 z), .val (.cz (p1 * z)), .put 6 38] [6] [q1175] w.heap.size (by kernel_rfl) (by kernel_rfl) ⟨p1210, b1227.lt, (by simp), trivial⟩ HB ?_ ?_
    · exact ⟨fun s v h => does_val rfl rfl (x_load_z ((h.same 6 rfl).trans p1210) ((h.held 3 6 38 _ rfl rfl rfl p1210).trans b1227)) (f1230.mono h.mono),
      fun s v h => does_val rfl rfl (x_load_z ((h.same 2 rfl).trans p1208) ((h.far q1102 b1225.lt (nin1 n1180)).trans b1225)) (f1228.mono h.mono),
      fun s v h => does_call rfl rfl (x_call2 Try.call71) (r2mul_k ((h.dep 0 rfl).az (N := 2049) lp) (h.dep 1 rfl) (by omega)),
      fun s v h => does_put_z rfl rfl ((h.same 6 rfl).trans p1210) (h.dep 2 rfl).shape (h.mono.ok _ _ b1227.ok2) h1179, trivial⟩
    intro g1234 ts v1234 hts E1234
    simp only [fillL, Nat.reduceAdd, List.setIfInBounds_toArray, List.set_cons_zero, List.set_cons_succ] at hts
    subst hts
    have T1235 : Below w.heap.size w v1234 := T1221.trans E1234.below
    have l1236 : q1102 < v1220.heap.size := b1225.lt
    have l1237 : q1108 < v1220.heap.size := b1226.lt
    have l1238 : q1175 < v1220.heap.size := b1227.lt
    have b1239 : Bx v1234 q1102 24 #[.bool na0, .slice A0 n0 c0] := (E1234.far q1102 b1225.lt (nin1 n1180)).trans b1225
    have b1240 : Bx v1234 q1108 24 #[.bool false, .slice none 0 0] := (E1234.far q1108 b1226.lt (nin1 n1181)).trans b1226
    have f1241 := f1228.mono E1234.mono
    have f1242 := f1229.mono E1234.mono
    have f1243 := f1230.mono E1234.mono
    have f1244 : Cz v1234 (g1234 0) p1 := E1234.facts 0 (by decide)
    have f1245 : Az N0 v1234 (g1234 1) z := E1234.facts 1 (by decide)
    have f1246 : Cz v1234 (g1234 2) (p1 * z) := E1234.facts 2 (by decide)
    obtain ⟨t1247, x1249, A1250, m1251, c1252, e1253, b1248⟩ := put_info (E1234.facts 3 (by decide)) p1210 f1246.shape
    have f1254 : Cz v1234 (.agg #[.bool x1249, .slice A1250 m1251 c1252]) (p1 * z) := f1246.at e1253.symm
    refine block_normal ?_
    refine then_normal ?_
    have HB : w.heap.size ≤ v1234.heap.size := T1235.size
    refine wp_plan_seq [.val (.is (.int .i64 i1)), .val (.is (.int .i64 (i1 + 1))), .val (.is (.int .i64 (i1 + 1)))] [] [] w.heap.size (by kernel_rfl) (by kernel_rfl) trivial HB ?_ ?_
    · exact ⟨fun s v h => does_val rfl rfl (x_move) ((h.soon 2 7 rfl rfl).trans p1212),
      fun s v h => does_val rfl rfl (x_add (h.dep 0 rfl) rfl (by rw [IntKind.wrap_i64]; omega)) rfl,
      fun s v h => does_val rfl rfl (x_assign) (h.dep 1 rfl), trivial⟩
    intro g1255 ts v1255 hts E1255
    simp only [fillL, Nat.reduceAdd, List.setIfInBounds_toArray, List.set_cons_zero, List.set_cons_succ] at hts
    subst hts
    have T1256 : Below w.heap.size w v1255 := T1235.trans E1255.below
    have l1257 : q1102 < v1234.heap.size := b1239.lt
    have l1258 : q1108 < v1234.heap.size := b1240.lt
    have l1259 : q1175 < v1234.heap.size := b1248.lt
    have b1260 : Bx v1255 q1102 24 #[.bool na0, .slice A0 n0 c0] := (E1255.far q1102 b1239.lt (by simp)).trans b1239
    have b1261 : Bx v1255 q1108 24 #[.bool false, .slice none 0 0] := (E1255.far q1108 b1240.lt (by simp)).trans b1240
    have b1262 : Bx v1255 q1175 t1247 #[.bool x1249, .slice A1250 m1251 c1252] := (E1255.far q1175 b1248.lt (by simp)).trans b1248
    have f1263 := f1241.mono E1255.mono
    have f1264 := f1242.mono E1255.mono
    have f1265 := f1243.mono E1255.mono
    have f1266 := f1244.mono E1255.mono
    have f1267 := f1245.mono E1255.mono
    have f1268 := f1246.mono E1255.mono
    have f1269 := f1254.mono E1255.mono
    have e1270 : g1255 0 = (.int .i64 i1) := E1255.facts 0 (by decide)
    have e1271 : g1255 1 = (.int .i64 (i1 + 1)) := E1255.facts 1 (by decide)
    have e1272 : g1255 2 = (.int .i64 (i1 + 1)) := E1255.facts 2 (by decide)
    refine then_normal ?_
    exact ⟨rfl, rfl, _, (by omega), (p1 * z), (i1 + 1), t1247, x1249, A1250, m1251, c1252, p1208, p1209, p1210, p1211, e1272, T1256, b1260, f1263, b1261, f1264, b1262, f1269, ⟨by rw [e2, Int.pow_succ, j1], by omega, by omega⟩, rfl⟩
  · skip
    have e1 : decide (i1 < n) = false := decide_eq_false hlt
    have e2 : p1 = z ^ n.toNat := by rw [j1, show i1 = n by omega]
    refine wp_seq ?_
    refine wp_seq ?_
    have HB : w.heap.size ≤ v1207.heap.size := T1213.size
    refine wp_plan_seq [.val (.is (.int .i64 i1)), .val (.is (.int .i64 n)), .val (.is (.bool false))] [] [] w.heap.size (by kernel_rfl) (by kernel_rfl) trivial HB ?_ ?_
    · exact ⟨fun s v h => does_val rfl rfl (x_move) ((h.same 7 rfl).trans p1212),
      fun s v h => does_val rfl rfl (x_move) ((h.same 1 rfl).trans p1211),
      fun s v h => does_val rfl rfl (x_lss (h.dep 0 rfl) (h.dep 1 rfl)) (congrArg Value.bool e1), trivial⟩
    intro g1273 ts v1273 hts E1273
    simp only [fillL, Nat.reduceAdd, List.setIfInBounds_toArray, List.set_cons_zero, List.set_cons_succ] at hts
    subst hts
    have T1274 : Below w.heap.size w v1273 := T1213.trans E1273.below
    have l1275 : q1102 < v1207.heap.size := b1214.lt
    have l1276 : q1108 < v1207.heap.size := b1216.lt
    have l1277 : q1175 < v1207.heap.size := b1218.lt
    have b1278 : Bx v1273 q1102 24 #[.bool na0, .slice A0 n0 c0] := (E1273.far q1102 b1214.lt (by simp)).trans b1214
    have b1279 : Bx v1273 q1108 24 #[.bool false, .slice none 0 0] := (E1273.far q1108 b1216.lt (by simp)).trans b1216
    have b1280 : Bx v1273 q1175 ty6 #[.bool b6_, .slice A6_ m6_ c6_] := (E1273.far q1175 b1218.lt (by simp)).trans b1218
    have f1281 := f1215.mono E1273.mono
    have f1282 := f1217.mono E1273.mono
    have f1283 := f1219.mono E1273.mono
    have e1284 : g1273 0 = (.int .i64 i1) := E1273.facts 0 (by decide)
    have e1285 : g1273 1 = (.int .i64 n) := E1273.facts 1 (by decide)
    have e1286 : g1273 2 = (.bool false) := E1273.facts 2 (by decide)
    refine then_normal ?_
    refine wp_cond_false e1286 ?_
    refine wp_exit ?_
    refine exit_then ?_
    refine exit_then ?_
    refine exit_block ?_
    refine then_normal ?_
    refine wp_seq ?_
    have HB : w.heap.size ≤ v1273.heap.size := T1274.size
    refine wp_plan_seq [.val (.cz p1), .put 4 39, .val (.is (.int .i64 0))] [4] [q1108] w.heap.size (by kernel_rfl) (by kernel_rfl) ⟨p1209, b1279.lt, (by simp), trivial⟩ HB ?_ ?_
    · exact ⟨fun s v h => does_val rfl rfl (x_load_z ((h.same 6 rfl).trans p1210) ((h.far q1175 b1280.lt (nin1 n1181.symm)).trans b1280)) (f1283.mono h.mono),
      fun s v h => does_put_z rfl rfl ((h.same 4 rfl).trans p1209) (h.dep 0 rfl).shape (h.mono.ok _ _ b1279.ok2) h1114,
      fun s v h => does_val rfl rfl (x_assign) rfl, trivial⟩
    intro g1287 ts v1287 hts E1287
    simp only [fillL, Nat.reduceAdd, List.setIfInBounds_toArray, List.set_cons_zero, List.set_cons_succ] at hts
    subst hts
    have T1288 : Below w.heap.size w v1287 := T1274.trans E1287.below
    have l1289 : q1102 < v1273.heap.size := b1278.lt
    have l1290 : q1108 < v1273.heap.size := b1279.lt
    have l1291 : q1175 < v1273.heap.size := b1280.lt
    have b1292 : Bx v1287 q1102 24 #[.bool na0, .slice A0 n0 c0] := (E1287.far q1102 b1278.lt (nin1 n1115)).trans b1278
    have b1293 : Bx v1287 q1175 ty6 #[.bool b6_, .slice A6_ m6_ c6_] := (E1287.far q1175 b1280.lt (nin1 n1181.symm)).trans b1280
    have f1294 := f1281.mono E1287.mono
    have f1295 := f1282.mono E1287.mono
    have f1296 := f1283.mono E1287.mono
    have f1297 : Cz v1287 (g1287 0) p1 := E1287.facts 0 (by decide)
    have e1298 : g1287 2 = (.int .i64 0) := E1287.facts 2 (by decide)
    obtain ⟨t1299, x1301, A1302, m1303, c1304, e1305, b1300⟩ := put_info (E1287.facts 1 (by decide)) p1209 f1297.shape
    have f1306 : Cz v1287 (.agg #[.bool x1301, .slice A1302 m1303 c1304]) p1 := f1297.at e1305.symm
    refine then_normal ?_
    refine wp_ret ?_
    exact bodyPost_ret (ret_ct rfl p1209 b1300) rfl ⟨_, rfl, ⟨_, _, rfl, (by have := f1306; rw [e2] at this; exact this), e1298⟩, T1288⟩

set_option maxHeartbeats 4000000 in
set_option maxRecDepth 8000 in
theorem rpow_d {w : World} {x : Value} {z : Int} {N0 : Nat} (h0 : Az N0 w x z) {n : Int} (hN0 : N0 ≤ 1000000000) (hn0 : 0 ≤ n) (hn1 : n ≤ 9223372036854775806) (HP : ∀ i : Int, 0 ≤ i → i ≤ n → (digs (z ^ i.toNat).natAbs).length ≤ 2049) (d1 : decide (n < 0) = false) (d2 : decide ((0 : Int) < (blen z.natAbs : Int)) = false) (d6 : (z.sign == 0) = true) (d7 : decide (0 < n) = false)  : Calls Try.prog 36 #[x, .int .i64 n] w (Ret (.tup2 (.cz (z ^ n.toNat)) (.is (.int .i64 0))) w) := by
  have _u := hN0
  have la0 := h0.len
  obtain ⟨na0, A0, n0, c0, M0, rfl, hm0, hz0⟩ := h0.parts
  have hbl := blen_bits la0
  have T0 : Below w.heap.size w w := Below.refl _ _
  go_enter Try.func36, Try.ntmps36
  refine wp_seq ?_
  have HB : w.heap.size ≤ w.heap.size := T0.size
  refine wp_plan_seq [.new 2 (some (24, #[.bool na0, .slice A0 n0 c0])), .new 2 (some (24, #[.bool false, .slice none 0 0])), .val (.is (.int .i64 0))] [] [] w.heap.size (by kernel_rfl) (by kernel_rfl) trivial HB ?_ ?_
  · exact ⟨fun s v h => does_new rfl rfl (x_box_z (h.same 0 rfl)) (okz _ _ _ _) rfl (.inr rfl),
      fun s v h => does_new rfl rfl x_alloc_z (okz _ _ _ _) rfl (.inr rfl),
      fun s v h => does_val rfl rfl (x_assign) rfl, trivial⟩
  intro g1307 ts v1307 hts E1307
  simp only [fillL, Nat.reduceAdd, List.setIfInBounds_toArray, List.set_cons_zero, List.set_cons_succ] at hts
  subst hts
  have T1308 : Below w.heap.size w v1307 := T0.trans E1307.below
  have f1309 := h0.mono E1307.mono
  have f1310 := hm0.mono E1307.mono
  have e1311 : g1307 2 = (.int .i64 0) := E1307.facts 2 (by decide)
  obtain ⟨q1312, p1313, l1314, o1315, b1316⟩ : ∃ q, g1307 0 = .pointer (some ⟨q, 0, none⟩) ∧ w.heap.size ≤ q ∧ OkB v1307 q 2 ∧ Bx v1307 q 24 #[.bool na0, .slice A0 n0 c0] := E1307.facts 0 (by decide)
  have h1317 : w.heap.size ≤ q1312 := Nat.le_trans HB l1314
  obtain ⟨q1318, p1319, l1320, o1321, b1322⟩ : ∃ q, g1307 1 = .pointer (some ⟨q, 0, none⟩) ∧ w.heap.size ≤ q ∧ OkB v1307 q 2 ∧ Bx v1307 q 24 #[.bool false, .slice none 0 0] := E1307.facts 1 (by decide)
  have f1323 : Cz v1307 (.agg #[.bool false, .slice none 0 0]) 0 := cz_zero _
  have h1324 : w.heap.size ≤ q1318 := Nat.le_trans HB l1320
  have n1325 : q1312 ≠ q1318 := apart_ne (E1307.apart 0 1 (by decide) (by decide) (by decide) ⟨_, _, rfl⟩ ⟨_, _, rfl⟩) p1313 p1319
  refine then_normal ?_
  refine wp_seq ?_
  refine wp_seq ?_
  have HB : w.heap.size ≤ v1307.heap.size := T1308.size
  refine wp_plan_seq [.val (.is (.int .i64 n)), .val (.is (.bool false))] [] [] w.heap.size (by kernel_rfl) (by kernel_rfl) trivial HB ?_ ?_
  · exact ⟨fun s v h => does_val rfl rfl (x_move) (h.same 1 rfl),
      fun s v h => does_val rfl rfl (x_lss (h.dep 0 rfl) rfl) (congrArg Value.bool d1), trivial⟩
  intro g1326 ts v1326 hts E1326
  simp only [fillL, Nat.reduceAdd, List.setIfInBounds_toArray, List.set_cons_zero, List.set_cons_succ] at hts
  subst hts
  have T1327 : Below w.heap.size w v1326 := T1308.trans E1326.below
  have l1328 : q1312 < v1307.heap.size := b1316.lt
  have l1329 : q1318 < v1307.heap.size := b1322.lt
  have b1330 : Bx v1326 q1312 24 #[.bool na0, .slice A0 n0 c0] := (E1326.far q1312 b1316.lt (by simp)).trans b1316
  have b1331 : Bx v1326 q1318 24 #[.bool false, .slice none 0 0] := (E1326.far q1318 b1322.lt (by simp)).trans b1322
  have f1332 := f1309.mono E1326.mono
  have f1333 := f1310.mono E1326.mono
  have f1334 := f1323.mono E1326.mono
  have e1335 : g1326 0 = (.int .i64 n) := E1326.facts 0 (by decide)
  have e1336 : g1326 1 = (.bool false) := E1326.facts 1 (by decide)
  refine then_normal ?_
  refine wp_cond_false e1336 ?_
  refine wp_skip ?_
  refine then_normal ?_
  refine wp_seq ?_
  refine wp_seq ?_
  have HB : w.heap.size ≤ v1326.heap.size := T1327.size
  refine wp_plan_seq [.val (.az N0 z), .val (.is (.int .i64 (blen z.natAbs))), .val (.is (.bool false)), .val (.is (.bool false)), .val .any, .val .any, .val .any, .val .any, .val .any, .val (.is (.bool false))] [] [] w.heap.size (by kernel_rfl) (by kernel_rfl) trivial HB ?_ ?_
  · exact ⟨fun s v h => does_val rfl rfl (x_load_z ((h.same 2 rfl).trans p1313) ((h.far q1312 b1330.lt (by simp)).trans b1330)) (f1332.mono h.mono),
      fun s v h => does_call rfl rfl (x_call1 Try.call21) (r2bits_k (h.dep 0 rfl)),
      fun s v h => does_val rfl rfl (x_gtr (h.dep 1 rfl) rfl) (congrArg Value.bool d2),
      fun s v h => does_val rfl rfl (x_move) (h.dep 2 rfl),
      fun s v h => does_skip rfl (wanted_by (b := false) (want := true) rfl rfl (h.dep 3 rfl)) trivial,
      fun s v h => does_skip rfl (wanted_by (b := false) (want := true) rfl rfl (h.dep 3 rfl)) trivial,
      fun s v h => does_skip rfl (wanted_by (b := false) (want := true) rfl rfl (h.dep 3 rfl)) trivial,
      fun s v h => does_skip rfl (wanted_by (b := false) (want := true) rfl rfl (h.dep 3 rfl)) trivial,
      fun s v h => does_skip rfl (wanted_by (b := false) (want := true) rfl rfl (h.dep 3 rfl)) trivial,
      fun s v h => does_val rfl rfl (x_pick (h.dep 3 rfl)) rfl, trivial⟩
  intro g1337 ts v1337 hts E1337
  simp only [fillL, Nat.reduceAdd, List.setIfInBounds_toArray, List.set_cons_zero, List.set_cons_succ] at hts
  subst hts
  have T1338 : Below w.heap.size w v1337 := T1327.trans E1337.below
  have l1339 : q1312 < v1326.heap.size := b1330.lt
  have l1340 : q1318 < v1326.heap.size := b1331.lt
  have b1341 : Bx v1337 q1312 24 #[.bool na0, .slice A0 n0 c0] := (E1337.far q1312 b1330.lt (by simp)).trans b1330
  have b1342 : Bx v1337 q1318 24 #[.bool false, .slice none 0 0] := (E1337.far q1318 b1331.lt (by simp)).trans b1331
  have f1343 := f1332.mono E1337.mono
  have f1344 := f1333.mono E1337.mono
  have f1345 := f1334.mono E1337.mono
  have f1346 : Az N0 v1337 (g1337 0) z := E1337.facts 0 (by decide)
  have e1347 : g1337 1 = (.int .i64 (blen z.natAbs)) := E1337.facts 1 (by decide)
  have e1348 : g1337 2 = (.bool false) := E1337.facts 2 (by decide)
  have e1349 : g1337 3 = (.bool false) := E1337.facts 3 (by decide)
  have e1350 : g1337 9 = (.bool false) := E1337.facts 9 (by decide)
  refine then_normal ?_
  refine wp_cond_false e1350 ?_
  refine wp_skip ?_
  refine then_normal ?_
  refine wp_seq ?_
  refine wp_seq ?_
  have HB : w.heap.size ≤ v1337.heap.size := T1338.size
  refine wp_plan_seq [.val (.az N0 z), .val (.is (.int .i64 z.sign)), .val (.is (.bool true)), .val (.is (.bool true)), .val (.is (.int .i64 n)), .val (.is (.bool false)), .val (.is (.bool false))] [] [] w.heap.size (by kernel_rfl) (by kernel_rfl) trivial HB ?_ ?_
  · exact ⟨fun s v h => does_val rfl rfl (x_load_z ((h.same 2 rfl).trans p1313) ((h.far q1312 b1341.lt (by simp)).trans b1341)) (f1343.mono h.mono),
      fun s v h => does_call rfl rfl (x_call1 Try.call28) (r2sign_k (h.dep 0 rfl) (by omega)),
      fun s v h => does_val rfl rfl (x_eql_int (h.dep 1 rfl) rfl) (congrArg Value.bool d6),
      fun s v h => does_val rfl rfl (x_move) (h.dep 2 rfl),
      fun s v h => does_val rfl (wanted_by (b := true) (want := true) rfl rfl (h.dep 3 rfl)) (x_move) (h.same 1 rfl),
      fun s v h => does_val rfl (wanted_by (b := true) (want := true) rfl rfl (h.dep 3 rfl)) (x_gtr (h.dep 4 rfl) rfl) (congrArg Value.bool d7),
      fun s v h => does_val rfl rfl (x_pick (h.dep 3 rfl)) (h.dep 5 rfl), trivial⟩
  intro g1351 ts v1351 hts E1351
  simp only [fillL, Nat.reduceAdd, List.setIfInBounds_toArray, List.set_cons_zero, List.set_cons_succ] at hts
  subst hts
  have T1352 : Below w.heap.size w v1351 := T1338.trans E1351.below
  have l1353 : q1312 < v1337.heap.size := b1341.lt
  have l1354 : q1318 < v1337.heap.size := b1342.lt
  have b1355 : Bx v1351 q1312 24 #[.bool na0, .slice A0 n0 c0] := (E1351.far q1312 b1341.lt (by simp)).trans b1341
  have b1356 : Bx v1351 q1318 24 #[.bool false, .slice none 0 0] := (E1351.far q1318 b1342.lt (by simp)).trans b1342
  have f1357 := f1343.mono E1351.mono
  have f1358 := f1344.mono E1351.mono
  have f1359 := f1345.mono E1351.mono
  have f1360 := f1346.mono E1351.mono
  have f1361 : Az N0 v1351 (g1351 0) z := E1351.facts 0 (by decide)
  have e1362 : g1351 1 = (.int .i64 z.sign) := E1351.facts 1 (by decide)
  have e1363 : g1351 2 = (.bool true) := E1351.facts 2 (by decide)
  have e1364 : g1351 3 = (.bool true) := E1351.facts 3 (by decide)
  have e1365 : g1351 4 = (.int .i64 n) := E1351.facts 4 (by decide)
  have e1366 : g1351 5 = (.bool false) := E1351.facts 5 (by decide)
  have e1367 : g1351 6 = (.bool false) := E1351.facts 6 (by decide)
  refine then_normal ?_
  refine wp_cond_false e1367 ?_
  refine wp_skip ?_
  refine then_normal ?_
  refine wp_seq ?_
  have HB : w.heap.size ≤ v1351.heap.size := T1352.size
  refine wp_plan_seq [.val (.cz 1), .new 2 none, .put 6 30] [] [] w.heap.size (by kernel_rfl) (by kernel_rfl) trivial HB ?_ ?_
  · exact ⟨fun s v h => does_call rfl rfl (x_call1 Try.call72) (r2of_k rfl (by decide) (by decide)),
      fun s v h => does_new rfl rfl x_alloc_z (okz _ _ _ _) rfl (.inl rfl),
      fun s v h => by obtain ⟨q, e1, e2, e3⟩ := new_at (h.dep 1 rfl); exact does_put_z rfl rfl e1 (h.dep 0 rfl).shape e3 (Nat.le_trans HB e2), trivial⟩
  intro g1368 ts v1368 hts E1368
  simp only [fillL, Nat.reduceAdd, List.setIfInBounds_toArray, List.set_cons_zero, List.set_cons_succ] at hts
  subst hts
  have T1369 : Below w.heap.size w v1368 := T1352.trans E1368.below
  have l1370 : q1312 < v1351.heap.size := b1355.lt
  have l1371 : q1318 < v1351.heap.size := b1356.lt
  have b1372 : Bx v1368 q1312 24 #[.bool na0, .slice A0 n0 c0] := (E1368.far q1312 b1355.lt (by simp)).trans b1355
  have b1373 : Bx v1368 q1318 24 #[.bool false, .slice none 0 0] := (E1368.far q1318 b1356.lt (by simp)).trans b1356
  have f1374 := f1357.mono E1368.mono
  have f1375 := f1358.mono E1368.mono
  have f1376 := f1359.mono E1368.mono
  have f1377 := f1360.mono E1368.mono
  have f1378 := f1361.mono E1368.mono
  have f1379 : Cz v1368 (g1368 0) 1 := E1368.facts 0 (by decide)
  obtain ⟨q1380, p1381, l1382, o1383⟩ : ∃ q, g1368 1 = .pointer (some ⟨q, 0, none⟩) ∧ v1351.heap.size ≤ q ∧ OkB v1368 q 2 := E1368.facts 1 (by decide)
  have h1384 : w.heap.size ≤ q1380 := Nat.le_trans HB l1382
  have n1385 : q1312 ≠ q1380 := by omega
  have n1386 : q1318 ≠ q1380 := by omega
  obtain ⟨t1387, x1389, A1390, m1391, c1392, e1393, b1388⟩ := put_info (E1368.facts 2 (by decide)) p1381 f1379.shape
  have f1394 : Cz v1368 (.agg #[.bool x1389, .slice A1390 m1391 c1392]) 1 := f1379.at e1393.symm
  refine then_normal ?_
  refine wp_seq ?_
  refine wp_seq ?_
  have HB : w.heap.size ≤ v1368.heap.size := T1369.size
  refine wp_plan_seq [.val (.is (.int .i64 0))] [] [] w.heap.size (by kernel_rfl) (by kernel_rfl) trivial HB ?_ ?_
  · exact ⟨fun s v h => does_val rfl rfl (x_assign) rfl, trivial⟩
  intro g1395 ts v1395 hts E1395
  simp only [fillL, List.setIfInBounds_toArray, List.set_cons_zero, List.set_cons_succ] at hts
  subst hts
  have T1396 : Below w.heap.size w v1395 := T1369.trans E1395.below
  have l1397 : q1312 < v1368.heap.size := b1372.lt
  have l1398 : q1318 < v1368.heap.size := b1373.lt
  have l1399 : q1380 < v1368.heap.size := b1388.lt
  have b1400 : Bx v1395 q1312 24 #[.bool na0, .slice A0 n0 c0] := (E1395.far q1312 b1372.lt (by simp)).trans b1372
  have b1401 : Bx v1395 q1318 24 #[.bool false, .slice none 0 0] := (E1395.far q1318 b1373.lt (by simp)).trans b1373
  have b1402 : Bx v1395 q1380 t1387 #[.bool x1389, .slice A1390 m1391 c1392] := (E1395.far q1380 b1388.lt (by simp)).trans b1388
  have f1403 := f1374.mono E1395.mono
  have f1404 := f1375.mono E1395.mono
  have f1405 := f1376.mono E1395.mono
  have f1406 := f1377.mono E1395.mono
  have f1407 := f1378.mono E1395.mono
  have f1408 := f1379.mono E1395.mono
  have f1409 := f1394.mono E1395.mono
  have e1410 : g1395 0 = (.int .i64 0) := E1395.facts 0 (by decide)
  refine then_normal ?_
  refine wp_block ?_
  refine wp_loop_v 40 (fun k y wL => ∃ (p1 : Int) (i1 : Int) (ty6 : TypeId) (b6_ : Bool) (A6_ : Option Addr) (m6_ c6_ : Nat), y 2 = .pointer (some ⟨q1312, 0, none⟩) ∧ y 4 = .pointer (some ⟨q1318, 0, none⟩) ∧ y 6 = .pointer (some ⟨q1380, 0, none⟩) ∧ y 1 = (.int .i64 n) ∧ y 7 = (.int .i64 i1) ∧ Below w.heap.size w wL ∧ Bx wL q1312 24 #[.bool na0, .slice A0 n0 c0] ∧ Az N0 wL (.agg #[.bool na0, .slice A0 n0 c0]) z ∧ Bx wL q1318 24 #[.bool false, .slice none 0 0] ∧ Cz wL (.agg #[.bool false, .slice none 0 0]) 0 ∧ Bx wL q1380 ty6 #[.bool b6_, .slice A6_ m6_ c6_] ∧ Cz wL (.agg #[.bool b6_, .slice A6_ m6_ c6_]) p1 ∧ (p1 = z ^ i1.toNat ∧ 0 ≤ i1 ∧ i1 ≤ n) ∧ k = (n - i1).toNat) rfl rfl ⟨_, 1, 0, t1387, x1389, A1390, m1391, c1392, p1313, p1319, p1381, rfl, e1410, T1396, b1400, f1403, b1401, f1405, b1402, f1409, ⟨by simp, by omega, by omega⟩, rfl⟩ ?_
  rintro k y1411 v1411 ⟨p1, i1, ty6, b6_, A6_, m6_, c6_, p1412, p1413, p1414, p1415, p1416, T1417, b1418, f1419, b1420, f1421, b1422, f1423, ⟨j1, j2, j3⟩, hk⟩
  have hlit : litv 40 y1411 = #[y1411 0, y1411 1, y1411 2, y1411 3, y1411 4, y1411 5, y1411 6, y1411 7, y1411 8, y1411 9, y1411 10, y1411 11, y1411 12, y1411 13, y1411 14, y1411 15, y1411 16, y1411 17, y1411 18, y1411 19, y1411 20, y1411 21, y1411 22, y1411 23, y1411 24, y1411 25, y1411 26, y1411 27, y1411 28, y1411 29, y1411 30, y1411 31, y1411 32, y1411 33, y1411 34, y1411 35, y1411 36, y1411 37, y1411 38, y1411 39] := rfl
  rw [hlit]
  clear hlit
  have lp := HP i1 j2 j3
  rw [← j1] at lp
  by_cases hlt : i1 < n
  · skip
    have e1 : decide (i1 < n) = true := decide_eq_true hlt
    have e2 : (i1 + 1).toNat = i1.toNat + 1 := by omega
    refine wp_seq ?_
    refine wp_seq ?_
    have HB : w.heap.size ≤ v1411.heap.size := T1417.size
    refine wp_plan_seq [.val (.is (.int .i64 i1)), .val (.is (.int .i64 n)), .val (.is (.bool true))] [] [] w.heap.size (by kernel_rfl) (by kernel_rfl) trivial HB ?_ ?_
    · exact ⟨fun s v h => does_val rfl rfl (x_move) ((h.same 7 rfl).trans p1416),
      fun s v h => does_val rfl rfl (x_move) ((h.same 1 rfl).trans p1415),
      fun s v h => does_val rfl rfl (x_lss (h.dep 0 rfl) (h.dep 1 rfl)) (congrArg Value.bool e1), trivial⟩
    intro g1424 ts v1424 hts E1424
    simp only [fillL, Nat.reduceAdd, List.setIfInBounds_toArray, List.set_cons_zero, List.set_cons_succ] at hts
    subst hts
    have T1425 : Below w.heap.size w v1424 := T1417.trans E1424.below
    have l1426 : q1312 < v1411.heap.size := b1418.lt
    have l1427 : q1318 < v1411.heap.size := b1420.lt
    have l1428 : q1380 < v1411.heap.size := b1422.lt
    have b1429 : Bx v1424 q1312 24 #[.bool na0, .slice A0 n0 c0] := (E1424.far q1312 b1418.lt (by simp)).trans b1418
    have b1430 : Bx v1424 q1318 24 #[.bool false, .slice none 0 0] := (E1424.far q1318 b1420.lt (by simp)).trans b1420
    have b1431 : Bx v1424 q1380 ty6 #[.bool b6_, .slice A6_ m6_ c6_] := (E1424.far q1380 b1422.lt (by simp)).trans b1422
    have f1432 := f1419.mono E1424.mono
    have f1433 := f1421.mono E1424.mono
    have f1434 := f1423.mono E1424.mono
    have e1435 : g1424 0 = (.int .i64 i1) := E1424.facts 0 (by decide)
    have e1436 : g1424 1 = (.int .i64 n) := E1424.facts 1 (by decide)
    have e1437 : g1424 2 = (.bool true) := E1424.facts 2 (by decide)
    refine then_normal ?_
    refine wp_cond_true e1437 ?_
    refine wp_skip ?_
    refine then_normal ?_
    refine wp_seq ?_
    refine wp_block ?_
    have HB : w.heap.size ≤ v1424.heap.size := T1425.size
    refine wp_plan_seq [.val (.cz p1), .val (.az N0 z), .val (.cz (p1 * z)), .put 6 38] [6] [q1380] w.heap.size (by kernel_rfl) (by kernel_rfl) ⟨p1414, b1431.lt, (by simp), trivial⟩ HB ?_ ?_
    · exact ⟨fun s v h => does_val rfl rfl (x_load_z ((h.same 6 rfl).trans p1414) ((h.held 3 6 38 _ rfl rfl rfl p1414).trans b1431)) (f1434.mono h.mono),
      fun s v h => does_val rfl rfl (x_load_z ((h.same 2 rfl).trans p1412) ((h.far q1312 b1429.lt (nin1 n1385)).trans b1429)) (f1432.mono h.mono),
      fun s v h => does_call rfl rfl (x_call2 Try.call71) (r2mul_k ((h.dep 0 rfl).az (N := 2049) lp) (h.dep 1 rfl) (by omega)),
      fun s v h => does_put_z rfl rfl ((h.same 6 rfl).trans p1414) (h.dep 2 rfl).shape (h.mono.ok _ _ b1431.ok2) h1384, trivial⟩
    intro g1438 ts v1438 hts E1438
    simp only [fillL, Nat.reduceAdd, List.setIfInBounds_toArray, List.set_cons_zero, List.set_cons_succ] at hts
    subst hts
    have T1439 : Below w.heap.size w v1438 := T1425.trans E1438.below
    have l1440 : q1312 < v1424.heap.size := b1429.lt
    have l1441 : q1318 < v1424.heap.size := b1430.lt
    have l1442 : q1380 < v1424.heap.size := b1431.lt
    have b1443 : Bx v1438 q1312 24 #[.bool na0, .slice A0 n0 c0] := (E1438.far q1312 b1429.lt (nin1 n1385)).trans b1429
    have b1444 : Bx v1438 q1318 24 #[.bool false, .slice none 0 0] := (E1438.far q1318 b1430.lt (nin1 n1386)).trans b1430
    have f1445 := f1432.mono E1438.mono
    have f1446 := f1433.mono E1438.mono
    have f1447 := f1434.mono E1438.mono
    have f1448 : Cz v1438 (g1438 0) p1 := E1438.facts 0 (by decide)
    have f1449 : Az N0 v1438 (g1438 1) z := E1438.facts 1 (by decide)
    have f1450 : Cz v1438 (g1438 2) (p1 * z) := E1438.facts 2 (by decide)
    obtain ⟨t1451, x1453, A1454, m1455, c1456, e1457, b1452⟩ := put_info (E1438.facts 3 (by decide)) p1414 f1450.shape
    have f1458 : Cz v1438 (.agg #[.bool x1453, .slice A1454 m1455 c1456]) (p1 * z) := f1450.at e1457.symm
    refine block_normal ?_
    refine then_normal ?_
    have HB : w.heap.size ≤ v1438.heap.size := T1439.size
    refine wp_plan_seq [.val (.is (.int .i64 i1)), .val (.is (.int .i64 (i1 + 1))), .val (.is (.int .i64 (i1 + 1)))] [] [] w.heap.size (by kernel_rfl) (by kernel_rfl) trivial HB ?_ ?_
    · exact ⟨fun s v h => does_val rfl rfl (x_move) ((h.soon 2 7 rfl rfl).trans p1416),
      fun s v h => does_val rfl rfl (x_add (h.dep 0 rfl) rfl (by rw [IntKind.wrap_i64]; omega)) rfl,
      fun s v h => does_val rfl rfl (x_assign) (h.dep 1 rfl), trivial⟩
    intro g1459 ts v1459 hts E1459
    simp only [fillL, Nat.reduceAdd, List.setIfInBounds_toArray, List.set_cons_zero, List.set_cons_succ] at hts
    subst hts
    have T1460 : Below w.heap.size w v1459 := T1439.trans E1459.below
    have l1461 : q1312 < v1438.heap.size := b1443.lt
    have l1462 : q1318 < v1438.heap.size := b1444.lt
    have l1463 : q1380 < v1438.heap.size := b1452.lt
    have b1464 : Bx v1459 q1312 24 #[.bool na0, .slice A0 n0 c0] := (E1459.far q1312 b1443.lt (by simp)).trans b1443
    have b1465 : Bx v1459 q1318 24 #[.bool false, .slice none 0 0] := (E1459.far q1318 b1444.lt (by simp)).trans b1444
    have b1466 : Bx v1459 q1380 t1451 #[.bool x1453, .slice A1454 m1455 c1456] := (E1459.far q1380 b1452.lt (by simp)).trans b1452
    have f1467 := f1445.mono E1459.mono
    have f1468 := f1446.mono E1459.mono
    have f1469 := f1447.mono E1459.mono
    have f1470 := f1448.mono E1459.mono
    have f1471 := f1449.mono E1459.mono
    have f1472 := f1450.mono E1459.mono
    have f1473 := f1458.mono E1459.mono
    have e1474 : g1459 0 = (.int .i64 i1) := E1459.facts 0 (by decide)
    have e1475 : g1459 1 = (.int .i64 (i1 + 1)) := E1459.facts 1 (by decide)
    have e1476 : g1459 2 = (.int .i64 (i1 + 1)) := E1459.facts 2 (by decide)
    refine then_normal ?_
    exact ⟨rfl, rfl, _, (by omega), (p1 * z), (i1 + 1), t1451, x1453, A1454, m1455, c1456, p1412, p1413, p1414, p1415, e1476, T1460, b1464, f1467, b1465, f1468, b1466, f1473, ⟨by rw [e2, Int.pow_succ, j1], by omega, by omega⟩, rfl⟩
  · skip
    have e1 : decide (i1 < n) = false := decide_eq_false hlt
    have e2 : p1 = z ^ n.toNat := by rw [j1, show i1 = n by omega]
    refine wp_seq ?_
    refine wp_seq ?_
    have HB : w.heap.size ≤ v1411.heap.size := T1417.size
    refine wp_plan_seq [.val (.is (.int .i64 i1)), .val (.is (.int .i64 n)), .val (.is (.bool false))] [] [] w.heap.size (by kernel_rfl) (by kernel_rfl) trivial HB ?_ ?_
    · exact ⟨fun s v h => does_val rfl rfl (x_move) ((h.same 7 rfl).trans p1416),
      fun s v h => does_val rfl rfl (x_move) ((h.same 1 rfl).trans p1415),
      fun s v h => does_val rfl rfl (x_lss (h.dep 0 rfl) (h.dep 1 rfl)) (congrArg Value.bool e1), trivial⟩
    intro g1477 ts v1477 hts E1477
    simp only [fillL, Nat.reduceAdd, List.setIfInBounds_toArray, List.set_cons_zero, List.set_cons_succ] at hts
    subst hts
    have T1478 : Below w.heap.size w v1477 := T1417.trans E1477.below
    have l1479 : q1312 < v1411.heap.size := b1418.lt
    have l1480 : q1318 < v1411.heap.size := b1420.lt
    have l1481 : q1380 < v1411.heap.size := b1422.lt
    have b1482 : Bx v1477 q1312 24 #[.bool na0, .slice A0 n0 c0] := (E1477.far q1312 b1418.lt (by simp)).trans b1418
    have b1483 : Bx v1477 q1318 24 #[.bool false, .slice none 0 0] := (E1477.far q1318 b1420.lt (by simp)).trans b1420
    have b1484 : Bx v1477 q1380 ty6 #[.bool b6_, .slice A6_ m6_ c6_] := (E1477.far q1380 b1422.lt (by simp)).trans b1422
    have f1485 := f1419.mono E1477.mono
    have f1486 := f1421.mono E1477.mono
    have f1487 := f1423.mono E1477.mono
    have e1488 : g1477 0 = (.int .i64 i1) := E1477.facts 0 (by decide)
    have e1489 : g1477 1 = (.int .i64 n) := E1477.facts 1 (by decide)
    have e1490 : g1477 2 = (.bool false) := E1477.facts 2 (by decide)
    refine then_normal ?_
    refine wp_cond_false e1490 ?_
    refine wp_exit ?_
    refine exit_then ?_
    refine exit_then ?_
    refine exit_block ?_
    refine then_normal ?_
    refine wp_seq ?_
    have HB : w.heap.size ≤ v1477.heap.size := T1478.size
    refine wp_plan_seq [.val (.cz p1), .put 4 39, .val (.is (.int .i64 0))] [4] [q1318] w.heap.size (by kernel_rfl) (by kernel_rfl) ⟨p1413, b1483.lt, (by simp), trivial⟩ HB ?_ ?_
    · exact ⟨fun s v h => does_val rfl rfl (x_load_z ((h.same 6 rfl).trans p1414) ((h.far q1380 b1484.lt (nin1 n1386.symm)).trans b1484)) (f1487.mono h.mono),
      fun s v h => does_put_z rfl rfl ((h.same 4 rfl).trans p1413) (h.dep 0 rfl).shape (h.mono.ok _ _ b1483.ok2) h1324,
      fun s v h => does_val rfl rfl (x_assign) rfl, trivial⟩
    intro g1491 ts v1491 hts E1491
    simp only [fillL, Nat.reduceAdd, List.setIfInBounds_toArray, List.set_cons_zero, List.set_cons_succ] at hts
    subst hts
    have T1492 : Below w.heap.size w v1491 := T1478.trans E1491.below
    have l1493 : q1312 < v1477.heap.size := b1482.lt
    have l1494 : q1318 < v1477.heap.size := b1483.lt
    have l1495 : q1380 < v1477.heap.size := b1484.lt
    have b1496 : Bx v1491 q1312 24 #[.bool na0, .slice A0 n0 c0] := (E1491.far q1312 b1482.lt (nin1 n1325)).trans b1482
    have b1497 : Bx v1491 q1380 ty6 #[.bool b6_, .slice A6_ m6_ c6_] := (E1491.far q1380 b1484.lt (nin1 n1386.symm)).trans b1484
    have f1498 := f1485.mono E1491.mono
    have f1499 := f1486.mono E1491.mono
    have f1500 := f1487.mono E1491.mono
    have f1501 : Cz v1491 (g1491 0) p1 := E1491.facts 0 (by decide)
    have e1502 : g1491 2 = (.int .i64 0) := E1491.facts 2 (by decide)
    obtain ⟨t1503, x1505, A1506, m1507, c1508, e1509, b1504⟩ := put_info (E1491.facts 1 (by decide)) p1413 f1501.shape
    have f1510 : Cz v1491 (.agg #[.bool x1505, .slice A1506 m1507 c1508]) p1 := f1501.at e1509.symm
    refine then_normal ?_
    refine wp_ret ?_
    exact bodyPost_ret (ret_ct rfl p1413 b1504) rfl ⟨_, rfl, ⟨_, _, rfl, (by have := f1510; rw [e2] at this; exact this), e1502⟩, T1492⟩

set_option maxHeartbeats 4000000 in
set_option maxRecDepth 8000 in
theorem rpow_e {w : World} {x : Value} {z : Int} {N0 : Nat} (h0 : Az N0 w x z) {n : Int} (hN0 : N0 ≤ 1000000000) (d1 : decide (n < 0) = false) (d2 : decide ((0 : Int) < (blen z.natAbs : Int)) = false) (d6 : (z.sign == 0) = true) (d7 : decide (0 < n) = true)  : Calls Try.prog 36 #[x, .int .i64 n] w (Ret (.tup2 (.cz 0) (.is (.int .i64 0))) w) := by
  have _u := hN0
  have la0 := h0.len
  obtain ⟨na0, A0, n0, c0, M0, rfl, hm0, hz0⟩ := h0.parts
  have hbl := blen_bits la0
  have T0 : Below w.heap.size w w := Below.refl _ _
  go_enter Try.func36, Try.ntmps36
  refine wp_seq ?_
  have HB : w.heap.size ≤ w.heap.size := T0.size
  refine wp_plan_seq [.new 2 (some (24, #[.bool na0, .slice A0 n0 c0])), .new 2 (some (24, #[.bool false, .slice none 0 0])), .val (.is (.int .i64 0))] [] [] w.heap.size (by kernel_rfl) (by kernel_rfl) trivial HB ?_ ?_
  · exact ⟨fun s v h => does_new rfl rfl (x_box_z (h.same 0 rfl)) (okz _ _ _ _) rfl (.inr rfl),
      fun s v h => does_new rfl rfl x_alloc_z (okz _ _ _ _) rfl (.inr rfl),
      fun s v h => does_val rfl rfl (x_assign) rfl, trivial⟩
  intro g1511 ts v1511 hts E1511
  simp only [fillL, Nat.reduceAdd, List.setIfInBounds_toArray, List.set_cons_zero, List.set_cons_succ] at hts
  subst hts
  have T1512 : Below w.heap.size w v1511 := T0.trans E1511.below
  have f1513 := h0.mono E1511.mono
  have f1514 := hm0.mono E1511.mono
  have e1515 : g1511 2 = (.int .i64 0) := E1511.facts 2 (by decide)
  obtain ⟨q1516, p1517, l1518, o1519, b1520⟩ : ∃ q, g1511 0 = .pointer (some ⟨q, 0, none⟩) ∧ w.heap.size ≤ q ∧ OkB v1511 q 2 ∧ Bx v1511 q 24 #[.bool na0, .slice A0 n0 c0] := E1511.facts 0 (by decide)
  have h1521 : w.heap.size ≤ q1516 := Nat.le_trans HB l1518
  obtain ⟨q1522, p1523, l1524, o1525, b1526⟩ : ∃ q, g1511 1 = .pointer (some ⟨q, 0, none⟩) ∧ w.heap.size ≤ q ∧ OkB v1511 q 2 ∧ Bx v1511 q 24 #[.bool false, .slice none 0 0] := E1511.facts 1 (by decide)
  have f1527 : Cz v1511 (.agg #[.bool false, .slice none 0 0]) 0 := cz_zero _
  have h1528 : w.heap.size ≤ q1522 := Nat.le_trans HB l1524
  have n1529 : q1516 ≠ q1522 := apart_ne (E1511.apart 0 1 (by decide) (by decide) (by decide) ⟨_, _, rfl⟩ ⟨_, _, rfl⟩) p1517 p1523
  refine then_normal ?_
  refine wp_seq ?_
  refine wp_seq ?_
  have HB : w.heap.size ≤ v1511.heap.size := T1512.size
  refine wp_plan_seq [.val (.is (.int .i64 n)), .val (.is (.bool false))] [] [] w.heap.size (by kernel_rfl) (by kernel_rfl) trivial HB ?_ ?_
  · exact ⟨fun s v h => does_val rfl rfl (x_move) (h.same 1 rfl),
      fun s v h => does_val rfl rfl (x_lss (h.dep 0 rfl) rfl) (congrArg Value.bool d1), trivial⟩
  intro g1530 ts v1530 hts E1530
  simp only [fillL, Nat.reduceAdd, List.setIfInBounds_toArray, List.set_cons_zero, List.set_cons_succ] at hts
  subst hts
  have T1531 : Below w.heap.size w v1530 := T1512.trans E1530.below
  have l1532 : q1516 < v1511.heap.size := b1520.lt
  have l1533 : q1522 < v1511.heap.size := b1526.lt
  have b1534 : Bx v1530 q1516 24 #[.bool na0, .slice A0 n0 c0] := (E1530.far q1516 b1520.lt (by simp)).trans b1520
  have b1535 : Bx v1530 q1522 24 #[.bool false, .slice none 0 0] := (E1530.far q1522 b1526.lt (by simp)).trans b1526
  have f1536 := f1513.mono E1530.mono
  have f1537 := f1514.mono E1530.mono
  have f1538 := f1527.mono E1530.mono
  have e1539 : g1530 0 = (.int .i64 n) := E1530.facts 0 (by decide)
  have e1540 : g1530 1 = (.bool false) := E1530.facts 1 (by decide)
  refine then_normal ?_
  refine wp_cond_false e1540 ?_
  refine wp_skip ?_
  refine then_normal ?_
  refine wp_seq ?_
  refine wp_seq ?_
  have HB : w.heap.size ≤ v1530.heap.size := T1531.size
  refine wp_plan_seq [.val (.az N0 z), .val (.is (.int .i64 (blen z.natAbs))), .val (.is (.bool false)), .val (.is (.bool false)), .val .any, .val .any, .val .any, .val .any, .val .any, .val (.is (.bool false))] [] [] w.heap.size (by kernel_rfl) (by kernel_rfl) trivial HB ?_ ?_
  · exact ⟨fun s v h => does_val rfl rfl (x_load_z ((h.same 2 rfl).trans p1517) ((h.far q1516 b1534.lt (by simp)).trans b1534)) (f1536.mono h.mono),
      fun s v h => does_call rfl rfl (x_call1 Try.call21) (r2bits_k (h.dep 0 rfl)),
      fun s v h => does_val rfl rfl (x_gtr (h.dep 1 rfl) rfl) (congrArg Value.bool d2),
      fun s v h => does_val rfl rfl (x_move) (h.dep 2 rfl),
      fun s v h => does_skip rfl (wanted_by (b := false) (want := true) rfl rfl (h.dep 3 rfl)) trivial,
      fun s v h => does_skip rfl (wanted_by (b := false) (want := true) rfl rfl (h.dep 3 rfl)) trivial,
      fun s v h => does_skip rfl (wanted_by (b := false) (want := true) rfl rfl (h.dep 3 rfl)) trivial,
      fun s v h => does_skip rfl (wanted_by (b := false) (want := true) rfl rfl (h.dep 3 rfl)) trivial,
      fun s v h => does_skip rfl (wanted_by (b := false) (want := true) rfl rfl (h.dep 3 rfl)) trivial,
      fun s v h => does_val rfl rfl (x_pick (h.dep 3 rfl)) rfl, trivial⟩
  intro g1541 ts v1541 hts E1541
  simp only [fillL, Nat.reduceAdd, List.setIfInBounds_toArray, List.set_cons_zero, List.set_cons_succ] at hts
  subst hts
  have T1542 : Below w.heap.size w v1541 := T1531.trans E1541.below
  have l1543 : q1516 < v1530.heap.size := b1534.lt
  have l1544 : q1522 < v1530.heap.size := b1535.lt
  have b1545 : Bx v1541 q1516 24 #[.bool na0, .slice A0 n0 c0] := (E1541.far q1516 b1534.lt (by simp)).trans b1534
  have b1546 : Bx v1541 q1522 24 #[.bool false, .slice none 0 0] := (E1541.far q1522 b1535.lt (by simp)).trans b1535
  have f1547 := f1536.mono E1541.mono
  have f1548 := f1537.mono E1541.mono
  have f1549 := f1538.mono E1541.mono
  have f1550 : Az N0 v1541 (g1541 0) z := E1541.facts 0 (by decide)
  have e1551 : g1541 1 = (.int .i64 (blen z.natAbs)) := E1541.facts 1 (by decide)
  have e1552 : g1541 2 = (.bool false) := E1541.facts 2 (by decide)
  have e1553 : g1541 3 = (.bool false) := E1541.facts 3 (by decide)
  have e1554 : g1541 9 = (.bool false) := E1541.facts 9 (by decide)
  refine then_normal ?_
  refine wp_cond_false e1554 ?_
  refine wp_skip ?_
  refine then_normal ?_
  refine wp_seq ?_
  refine wp_seq ?_
  have HB : w.heap.size ≤ v1541.heap.size := T1542.size
  refine wp_plan_seq [.val (.az N0 z), .val (.is (.int .i64 z.sign)), .val (.is (.bool true)), .val (.is (.bool true)), .val (.is (.int .i64 n)), .val (.is (.bool true)), .val (.is (.bool true))] [] [] w.heap.size (by kernel_rfl) (by kernel_rfl) trivial HB ?_ ?_
  · exact ⟨fun s v h => does_val rfl rfl (x_load_z ((h.same 2 rfl).trans p1517) ((h.far q1516 b1545.lt (by simp)).trans b1545)) (f1547.mono h.mono),
      fun s v h => does_call rfl rfl (x_call1 Try.call28) (r2sign_k (h.dep 0 rfl) (by omega)),
      fun s v h => does_val rfl rfl (x_eql_int (h.dep 1 rfl) rfl) (congrArg Value.bool d6),
      fun s v h => does_val rfl rfl (x_move) (h.dep 2 rfl),
      fun s v h => does_val rfl (wanted_by (b := true) (want := true) rfl rfl (h.dep 3 rfl)) (x_move) (h.same 1 rfl),
      fun s v h => does_val rfl (wanted_by (b := true) (want := true) rfl rfl (h.dep 3 rfl)) (x_gtr (h.dep 4 rfl) rfl) (congrArg Value.bool d7),
      fun s v h => does_val rfl rfl (x_pick (h.dep 3 rfl)) (h.dep 5 rfl), trivial⟩
  intro g1555 ts v1555 hts E1555
  simp only [fillL, Nat.reduceAdd, List.setIfInBounds_toArray, List.set_cons_zero, List.set_cons_succ] at hts
  subst hts
  have T1556 : Below w.heap.size w v1555 := T1542.trans E1555.below
  have l1557 : q1516 < v1541.heap.size := b1545.lt
  have l1558 : q1522 < v1541.heap.size := b1546.lt
  have b1559 : Bx v1555 q1516 24 #[.bool na0, .slice A0 n0 c0] := (E1555.far q1516 b1545.lt (by simp)).trans b1545
  have b1560 : Bx v1555 q1522 24 #[.bool false, .slice none 0 0] := (E1555.far q1522 b1546.lt (by simp)).trans b1546
  have f1561 := f1547.mono E1555.mono
  have f1562 := f1548.mono E1555.mono
  have f1563 := f1549.mono E1555.mono
  have f1564 := f1550.mono E1555.mono
  have f1565 : Az N0 v1555 (g1555 0) z := E1555.facts 0 (by decide)
  have e1566 : g1555 1 = (.int .i64 z.sign) := E1555.facts 1 (by decide)
  have e1567 : g1555 2 = (.bool true) := E1555.facts 2 (by decide)
  have e1568 : g1555 3 = (.bool true) := E1555.facts 3 (by decide)
  have e1569 : g1555 4 = (.int .i64 n) := E1555.facts 4 (by decide)
  have e1570 : g1555 5 = (.bool true) := E1555.facts 5 (by decide)
  have e1571 : g1555 6 = (.bool true) := E1555.facts 6 (by decide)
  refine then_normal ?_
  refine wp_cond_true e1571 ?_
  refine wp_seq ?_
  have HB : w.heap.size ≤ v1555.heap.size := T1556.size
  refine wp_plan_seq [.val (.cz 0), .put 4 29, .val (.is (.int .i64 0))] [4] [q1522] w.heap.size (by kernel_rfl) (by kernel_rfl) ⟨p1523, b1560.lt, (by simp), trivial⟩ HB ?_ ?_
  · exact ⟨fun s v h => does_call rfl rfl (x_call1 Try.call72) (r2of_k rfl (by decide) (by decide)),
      fun s v h => does_put_z rfl rfl ((h.same 4 rfl).trans p1523) (h.dep 0 rfl).shape (h.mono.ok _ _ b1560.ok2) h1528,
      fun s v h => does_val rfl rfl (x_assign) rfl, trivial⟩
  intro g1572 ts v1572 hts E1572
  simp only [fillL, Nat.reduceAdd, List.setIfInBounds_toArray, List.set_cons_zero, List.set_cons_succ] at hts
  subst hts
  have T1573 : Below w.heap.size w v1572 := T1556.trans E1572.below
  have l1574 : q1516 < v1555.heap.size := b1559.lt
  have l1575 : q1522 < v1555.heap.size := b1560.lt
  have b1576 : Bx v1572 q1516 24 #[.bool na0, .slice A0 n0 c0] := (E1572.far q1516 b1559.lt (nin1 n1529)).trans b1559
  have f1577 := f1561.mono E1572.mono
  have f1578 := f1562.mono E1572.mono
  have f1579 := f1563.mono E1572.mono
  have f1580 := f1564.mono E1572.mono
  have f1581 := f1565.mono E1572.mono
  have f1582 : Cz v1572 (g1572 0) 0 := E1572.facts 0 (by decide)
  have e1583 : g1572 2 = (.int .i64 0) := E1572.facts 2 (by decide)
  obtain ⟨t1584, x1586, A1587, m1588, c1589, e1590, b1585⟩ := put_info (E1572.facts 1 (by decide)) p1523 f1582.shape
  have f1591 : Cz v1572 (.agg #[.bool x1586, .slice A1587 m1588 c1589]) 0 := f1582.at e1590.symm
  refine then_normal ?_
  refine wp_ret ?_
  exact bodyPost_ret (ret_ct rfl p1523 b1585) rfl ⟨_, rfl, ⟨_, _, rfl, f1591, e1583⟩, T1573⟩

set_option maxHeartbeats 4000000 in
set_option maxRecDepth 8000 in
theorem zshift_a {w : World} {x : Value} {z : Int} {N0 : Nat} (h0 : Az N0 w x z) (hN0 : N0 ≤ 1000000000) {n : Int} (d1 : decide (65536 < n) = true)  : Calls Try.prog 37 #[x, .int .i64 n] w (Ret (.tup2 (.cz 0) (.is (.int .i64 2))) w) := by
  have _u := hN0
  have la0 := h0.len
  obtain ⟨na0, A0, n0, c0, M0, rfl, hm0, hz0⟩ := h0.parts
  have T0 : Below w.heap.size w w := Below.refl _ _
  go_enter Try.func37, Try.ntmps37
  refine wp_seq ?_
  have HB : w.heap.size ≤ w.heap.size := T0.size
  refine wp_plan_seq [.new 2 (some (24, #[.bool na0, .slice A0 n0 c0])), .new 2 (some (24, #[.bool false, .slice none 0 0])), .val (.is (.int .i64 0))] [] [] w.heap.size (by kernel_rfl) (by kernel_rfl) trivial HB ?_ ?_
  · exact ⟨fun s v h => does_new rfl rfl (x_box_z (h.same 0 rfl)) (okz _ _ _ _) rfl (.inr rfl),
      fun s v h => does_new rfl rfl x_alloc_z (okz _ _ _ _) rfl (.inr rfl),
      fun s v h => does_val rfl rfl (x_assign) rfl, trivial⟩
  intro g1592 ts v1592 hts E1592
  simp only [fillL, Nat.reduceAdd, List.setIfInBounds_toArray, List.set_cons_zero, List.set_cons_succ] at hts
  subst hts
  have T1593 : Below w.heap.size w v1592 := T0.trans E1592.below
  have f1594 := h0.mono E1592.mono
  have f1595 := hm0.mono E1592.mono
  have e1596 : g1592 2 = (.int .i64 0) := E1592.facts 2 (by decide)
  obtain ⟨q1597, p1598, l1599, o1600, b1601⟩ : ∃ q, g1592 0 = .pointer (some ⟨q, 0, none⟩) ∧ w.heap.size ≤ q ∧ OkB v1592 q 2 ∧ Bx v1592 q 24 #[.bool na0, .slice A0 n0 c0] := E1592.facts 0 (by decide)
  have h1602 : w.heap.size ≤ q1597 := Nat.le_trans HB l1599
  obtain ⟨q1603, p1604, l1605, o1606, b1607⟩ : ∃ q, g1592 1 = .pointer (some ⟨q, 0, none⟩) ∧ w.heap.size ≤ q ∧ OkB v1592 q 2 ∧ Bx v1592 q 24 #[.bool false, .slice none 0 0] := E1592.facts 1 (by decide)
  have f1608 : Cz v1592 (.agg #[.bool false, .slice none 0 0]) 0 := cz_zero _
  have h1609 : w.heap.size ≤ q1603 := Nat.le_trans HB l1605
  have n1610 : q1597 ≠ q1603 := apart_ne (E1592.apart 0 1 (by decide) (by decide) (by decide) ⟨_, _, rfl⟩ ⟨_, _, rfl⟩) p1598 p1604
  refine then_normal ?_
  refine wp_seq ?_
  refine wp_seq ?_
  have HB : w.heap.size ≤ v1592.heap.size := T1593.size
  refine wp_plan_seq [.val (.is (.int .i64 n)), .val (.is (.bool true)), .val (.is (.bool true)), .val .any, .val .any, .val (.is (.bool true))] [] [] w.heap.size (by kernel_rfl) (by kernel_rfl) trivial HB ?_ ?_
  · exact ⟨fun s v h => does_val rfl rfl (x_move) (h.same 1 rfl),
      fun s v h => does_val rfl rfl (x_gtr (h.dep 0 rfl) rfl) (congrArg Value.bool d1),
      fun s v h => does_val rfl rfl (x_move) (h.dep 1 rfl),
      fun s v h => does_skip rfl (wanted_by (b := true) (want := false) rfl rfl (h.dep 2 rfl)) trivial,
      fun s v h => does_skip rfl (wanted_by (b := true) (want := false) rfl rfl (h.dep 2 rfl)) trivial,
      fun s v h => does_val rfl rfl (x_pick (h.dep 2 rfl)) rfl, trivial⟩
  intro g1611 ts v1611 hts E1611
  simp only [fillL, Nat.reduceAdd, List.setIfInBounds_toArray, List.set_cons_zero, List.set_cons_succ] at hts
  subst hts
  have T1612 : Below w.heap.size w v1611 := T1593.trans E1611.below
  have l1613 : q1597 < v1592.heap.size := b1601.lt
  have l1614 : q1603 < v1592.heap.size := b1607.lt
  have b1615 : Bx v1611 q1597 24 #[.bool na0, .slice A0 n0 c0] := (E1611.far q1597 b1601.lt (by simp)).trans b1601
  have b1616 : Bx v1611 q1603 24 #[.bool false, .slice none 0 0] := (E1611.far q1603 b1607.lt (by simp)).trans b1607
  have f1617 := f1594.mono E1611.mono
  have f1618 := f1595.mono E1611.mono
  have f1619 := f1608.mono E1611.mono
  have e1620 : g1611 0 = (.int .i64 n) := E1611.facts 0 (by decide)
  have e1621 : g1611 1 = (.bool true) := E1611.facts 1 (by decide)
  have e1622 : g1611 2 = (.bool true) := E1611.facts 2 (by decide)
  have e1623 : g1611 5 = (.bool true) := E1611.facts 5 (by decide)
  refine then_normal ?_
  refine wp_cond_true e1623 ?_
  refine wp_seq ?_
  have HB : w.heap.size ≤ v1611.heap.size := T1612.size
  refine wp_plan_seq [.val (.is (.agg #[.bool false, .slice none 0 0])), .put 4 15, .val (.is (.int .i64 2))] [4] [q1603] w.heap.size (by kernel_rfl) (by kernel_rfl) ⟨p1604, b1616.lt, (by simp), trivial⟩ HB ?_ ?_
  · exact ⟨fun s v h => does_val rfl rfl x_build0 rfl,
      fun s v h => does_put_z rfl rfl ((h.same 4 rfl).trans p1604) ⟨_, _, _, _, (h.dep 0 rfl)⟩ (h.mono.ok _ _ b1616.ok2) h1609,
      fun s v h => does_val rfl rfl (x_assign) rfl, trivial⟩
  intro g1624 ts v1624 hts E1624
  simp only [fillL, Nat.reduceAdd, List.setIfInBounds_toArray, List.set_cons_zero, List.set_cons_succ] at hts
  subst hts
  have T1625 : Below w.heap.size w v1624 := T1612.trans E1624.below
  have l1626 : q1597 < v1611.heap.size := b1615.lt
  have l1627 : q1603 < v1611.heap.size := b1616.lt
  have b1628 : Bx v1624 q1597 24 #[.bool na0, .slice A0 n0 c0] := (E1624.far q1597 b1615.lt (nin1 n1610)).trans b1615
  have f1629 := f1617.mono E1624.mono
  have f1630 := f1618.mono E1624.mono
  have f1631 := f1619.mono E1624.mono
  have e1632 : g1624 0 = (.agg #[.bool false, .slice none 0 0]) := E1624.facts 0 (by decide)
  have e1633 : g1624 2 = (.int .i64 2) := E1624.facts 2 (by decide)
  obtain ⟨t1634, b1635⟩ := put_lit (E1624.facts 1 (by decide)) p1604 e1632
  have f1636 : Cz v1624 (.agg #[.bool false, .slice none 0 0]) 0 := cz_zero _
  refine then_normal ?_
  refine wp_ret ?_
  exact bodyPost_ret (ret_ct rfl p1604 b1635) rfl ⟨_, rfl, ⟨_, _, rfl, f1636, e1633⟩, T1625⟩

set_option maxHeartbeats 4000000 in
set_option maxRecDepth 8000 in
theorem zshift_b {w : World} {x : Value} {z : Int} {N0 : Nat} (h0 : Az N0 w x z) (hN0 : N0 ≤ 1000000000) {n : Int} (d1 : decide (65536 < n) = false) (d2 : decide (n < -65536) = true)  : Calls Try.prog 37 #[x, .int .i64 n] w (Ret (.tup2 (.cz 0) (.is (.int .i64 2))) w) := by
  have _u := hN0
  have la0 := h0.len
  obtain ⟨na0, A0, n0, c0, M0, rfl, hm0, hz0⟩ := h0.parts
  have T0 : Below w.heap.size w w := Below.refl _ _
  go_enter Try.func37, Try.ntmps37
  refine wp_seq ?_
  have HB : w.heap.size ≤ w.heap.size := T0.size
  refine wp_plan_seq [.new 2 (some (24, #[.bool na0, .slice A0 n0 c0])), .new 2 (some (24, #[.bool false, .slice none 0 0])), .val (.is (.int .i64 0))] [] [] w.heap.size (by kernel_rfl) (by kernel_rfl) trivial HB ?_ ?_
  · exact ⟨fun s v h => does_new rfl rfl (x_box_z (h.same 0 rfl)) (okz _ _ _ _) rfl (.inr rfl),
      fun s v h => does_new rfl rfl x_alloc_z (okz _ _ _ _) rfl (.inr rfl),
      fun s v h => does_val rfl rfl (x_assign) rfl, trivial⟩
  intro g1637 ts v1637 hts E1637
  simp only [fillL, Nat.reduceAdd, List.setIfInBounds_toArray, List.set_cons_zero, List.set_cons_succ] at hts
  subst hts
  have T1638 : Below w.heap.size w v1637 := T0.trans E1637.below
  have f1639 := h0.mono E1637.mono
  have f1640 := hm0.mono E1637.mono
  have e1641 : g1637 2 = (.int .i64 0) := E1637.facts 2 (by decide)
  obtain ⟨q1642, p1643, l1644, o1645, b1646⟩ : ∃ q, g1637 0 = .pointer (some ⟨q, 0, none⟩) ∧ w.heap.size ≤ q ∧ OkB v1637 q 2 ∧ Bx v1637 q 24 #[.bool na0, .slice A0 n0 c0] := E1637.facts 0 (by decide)
  have h1647 : w.heap.size ≤ q1642 := Nat.le_trans HB l1644
  obtain ⟨q1648, p1649, l1650, o1651, b1652⟩ : ∃ q, g1637 1 = .pointer (some ⟨q, 0, none⟩) ∧ w.heap.size ≤ q ∧ OkB v1637 q 2 ∧ Bx v1637 q 24 #[.bool false, .slice none 0 0] := E1637.facts 1 (by decide)
  have f1653 : Cz v1637 (.agg #[.bool false, .slice none 0 0]) 0 := cz_zero _
  have h1654 : w.heap.size ≤ q1648 := Nat.le_trans HB l1650
  have n1655 : q1642 ≠ q1648 := apart_ne (E1637.apart 0 1 (by decide) (by decide) (by decide) ⟨_, _, rfl⟩ ⟨_, _, rfl⟩) p1643 p1649
  refine then_normal ?_
  refine wp_seq ?_
  refine wp_seq ?_
  have HB : w.heap.size ≤ v1637.heap.size := T1638.size
  refine wp_plan_seq [.val (.is (.int .i64 n)), .val (.is (.bool false)), .val (.is (.bool false)), .val (.is (.int .i64 n)), .val (.is (.bool true)), .val (.is (.bool true))] [] [] w.heap.size (by kernel_rfl) (by kernel_rfl) trivial HB ?_ ?_
  · exact ⟨fun s v h => does_val rfl rfl (x_move) (h.same 1 rfl),
      fun s v h => does_val rfl rfl (x_gtr (h.dep 0 rfl) rfl) (congrArg Value.bool d1),
      fun s v h => does_val rfl rfl (x_move) (h.dep 1 rfl),
      fun s v h => does_val rfl (wanted_by (b := false) (want := false) rfl rfl (h.dep 2 rfl)) (x_move) (h.same 1 rfl),
      fun s v h => does_val rfl (wanted_by (b := false) (want := false) rfl rfl (h.dep 2 rfl)) (x_lss (h.dep 3 rfl) rfl) (congrArg Value.bool d2),
      fun s v h => does_val rfl rfl (x_pick (h.dep 2 rfl)) (h.dep 4 rfl), trivial⟩
  intro g1656 ts v1656 hts E1656
  simp only [fillL, Nat.reduceAdd, List.setIfInBounds_toArray, List.set_cons_zero, List.set_cons_succ] at hts
  subst hts
  have T1657 : Below w.heap.size w v1656 := T1638.trans E1656.below
  have l1658 : q1642 < v1637.heap.size := b1646.lt
  have l1659 : q1648 < v1637.heap.size := b1652.lt
  have b1660 : Bx v1656 q1642 24 #[.bool na0, .slice A0 n0 c0] := (E1656.far q1642 b1646.lt (by simp)).trans b1646
  have b1661 : Bx v1656 q1648 24 #[.bool false, .slice none 0 0] := (E1656.far q1648 b1652.lt (by simp)).trans b1652
  have f1662 := f1639.mono E1656.mono
  have f1663 := f1640.mono E1656.mono
  have f1664 := f1653.mono E1656.mono
  have e1665 : g1656 0 = (.int .i64 n) := E1656.facts 0 (by decide)
  have e1666 : g1656 1 = (.bool false) := E1656.facts 1 (by decide)
  have e1667 : g1656 2 = (.bool false) := E1656.facts 2 (by decide)
  have e1668 : g1656 3 = (.int .i64 n) := E1656.facts 3 (by decide)
  have e1669 : g1656 4 = (.bool true) := E1656.facts 4 (by decide)
  have e1670 : g1656 5 = (.bool true) := E1656.facts 5 (by decide)
  refine then_normal ?_
  refine wp_cond_true e1670 ?_
  refine wp_seq ?_
  have HB : w.heap.size ≤ v1656.heap.size := T1657.size
  refine wp_plan_seq [.val (.is (.agg #[.bool false, .slice none 0 0])), .put 4 15, .val (.is (.int .i64 2))] [4] [q1648] w.heap.size (by kernel_rfl) (by kernel_rfl) ⟨p1649, b1661.lt, (by simp), trivial⟩ HB ?_ ?_
  · exact ⟨fun s v h => does_val rfl rfl x_build0 rfl,
      fun s v h => does_put_z rfl rfl ((h.same 4 rfl).trans p1649) ⟨_, _, _, _, (h.dep 0 rfl)⟩ (h.mono.ok _ _ b1661.ok2) h1654,
      fun s v h => does_val rfl rfl (x_assign) rfl, trivial⟩
  intro g1671 ts v1671 hts E1671
  simp only [fillL, Nat.reduceAdd, List.setIfInBounds_toArray, List.set_cons_zero, List.set_cons_succ] at hts
  subst hts
  have T1672 : Below w.heap.size w v1671 := T1657.trans E1671.below
  have l1673 : q1642 < v1656.heap.size := b1660.lt
  have l1674 : q1648 < v1656.heap.size := b1661.lt
  have b1675 : Bx v1671 q1642 24 #[.bool na0, .slice A0 n0 c0] := (E1671.far q1642 b1660.lt (nin1 n1655)).trans b1660
  have f1676 := f1662.mono E1671.mono
  have f1677 := f1663.mono E1671.mono
  have f1678 := f1664.mono E1671.mono
  have e1679 : g1671 0 = (.agg #[.bool false, .slice none 0 0]) := E1671.facts 0 (by decide)
  have e1680 : g1671 2 = (.int .i64 2) := E1671.facts 2 (by decide)
  obtain ⟨t1681, b1682⟩ := put_lit (E1671.facts 1 (by decide)) p1649 e1679
  have f1683 : Cz v1671 (.agg #[.bool false, .slice none 0 0]) 0 := cz_zero _
  refine then_normal ?_
  refine wp_ret ?_
  exact bodyPost_ret (ret_ct rfl p1649 b1682) rfl ⟨_, rfl, ⟨_, _, rfl, f1683, e1680⟩, T1672⟩

set_option maxHeartbeats 4000000 in
set_option maxRecDepth 8000 in
theorem zshift_c {w : World} {x : Value} {z : Int} {N0 : Nat} (h0 : Az N0 w x z) (hN0 : N0 ≤ 1000000000) {e : Nat} (he : e ≤ 65536) (d1 : decide (65536 < (e : Int)) = false) (d2 : decide ((e : Int) < -65536) = false) (d3 : decide (0 ≤ (e : Int)) = true)  : Calls Try.prog 37 #[x, .int .i64 (e : Int)] w (Ret (.tup2 (.cz (z * ((2 ^ e : Nat) : Int))) (.is (.int .i64 0))) w) := by
  have _u := hN0
  have la0 := h0.len
  obtain ⟨na0, A0, n0, c0, M0, rfl, hm0, hz0⟩ := h0.parts
  have T0 : Below w.heap.size w w := Below.refl _ _
  go_enter Try.func37, Try.ntmps37
  refine wp_seq ?_
  have HB : w.heap.size ≤ w.heap.size := T0.size
  refine wp_plan_seq [.new 2 (some (24, #[.bool na0, .slice A0 n0 c0])), .new 2 (some (24, #[.bool false, .slice none 0 0])), .val (.is (.int .i64 0))] [] [] w.heap.size (by kernel_rfl) (by kernel_rfl) trivial HB ?_ ?_
  · exact ⟨fun s v h => does_new rfl rfl (x_box_z (h.same 0 rfl)) (okz _ _ _ _) rfl (.inr rfl),
      fun s v h => does_new rfl rfl x_alloc_z (okz _ _ _ _) rfl (.inr rfl),
      fun s v h => does_val rfl rfl (x_assign) rfl, trivial⟩
  intro g1684 ts v1684 hts E1684
  simp only [fillL, Nat.reduceAdd, List.setIfInBounds_toArray, List.set_cons_zero, List.set_cons_succ] at hts
  subst hts
  have T1685 : Below w.heap.size w v1684 := T0.trans E1684.below
  have f1686 := h0.mono E1684.mono
  have f1687 := hm0.mono E1684.mono
  have e1688 : g1684 2 = (.int .i64 0) := E1684.facts 2 (by decide)
  obtain ⟨q1689, p1690, l1691, o1692, b1693⟩ : ∃ q, g1684 0 = .pointer (some ⟨q, 0, none⟩) ∧ w.heap.size ≤ q ∧ OkB v1684 q 2 ∧ Bx v1684 q 24 #[.bool na0, .slice A0 n0 c0] := E1684.facts 0 (by decide)
  have h1694 : w.heap.size ≤ q1689 := Nat.le_trans HB l1691
  obtain ⟨q1695, p1696, l1697, o1698, b1699⟩ : ∃ q, g1684 1 = .pointer (some ⟨q, 0, none⟩) ∧ w.heap.size ≤ q ∧ OkB v1684 q 2 ∧ Bx v1684 q 24 #[.bool false, .slice none 0 0] := E1684.facts 1 (by decide)
  have f1700 : Cz v1684 (.agg #[.bool false, .slice none 0 0]) 0 := cz_zero _
  have h1701 : w.heap.size ≤ q1695 := Nat.le_trans HB l1697
  have n1702 : q1689 ≠ q1695 := apart_ne (E1684.apart 0 1 (by decide) (by decide) (by decide) ⟨_, _, rfl⟩ ⟨_, _, rfl⟩) p1690 p1696
  refine then_normal ?_
  refine wp_seq ?_
  refine wp_seq ?_
  have HB : w.heap.size ≤ v1684.heap.size := T1685.size
  refine wp_plan_seq [.val (.is (.int .i64 (e : Int))), .val (.is (.bool false)), .val (.is (.bool false)), .val (.is (.int .i64 (e : Int))), .val (.is (.bool false)), .val (.is (.bool false))] [] [] w.heap.size (by kernel_rfl) (by kernel_rfl) trivial HB ?_ ?_
  · exact ⟨fun s v h => does_val rfl rfl (x_move) (h.same 1 rfl),
      fun s v h => does_val rfl rfl (x_gtr (h.dep 0 rfl) rfl) (congrArg Value.bool d1),
      fun s v h => does_val rfl rfl (x_move) (h.dep 1 rfl),
      fun s v h => does_val rfl (wanted_by (b := false) (want := false) rfl rfl (h.dep 2 rfl)) (x_move) (h.same 1 rfl),
      fun s v h => does_val rfl (wanted_by (b := false) (want := false) rfl rfl (h.dep 2 rfl)) (x_lss (h.dep 3 rfl) rfl) (congrArg Value.bool d2),
      fun s v h => does_val rfl rfl (x_pick (h.dep 2 rfl)) (h.dep 4 rfl), trivial⟩
  intro g1703 ts v1703 hts E1703
  simp only [fillL, Nat.reduceAdd, List.setIfInBounds_toArray, List.set_cons_zero, List.set_cons_succ] at hts
  subst hts
  have T1704 : Below w.heap.size w v1703 := T1685.trans E1703.below
  have l1705 : q1689 < v1684.heap.size := b1693.lt
  have l1706 : q1695 < v1684.heap.size := b1699.lt
  have b1707 : Bx v1703 q1689 24 #[.bool na0, .slice A0 n0 c0] := (E1703.far q1689 b1693.lt (by simp)).trans b1693
  have b1708 : Bx v1703 q1695 24 #[.bool false, .slice none 0 0] := (E1703.far q1695 b1699.lt (by simp)).trans b1699
  have f1709 := f1686.mono E1703.mono
  have f1710 := f1687.mono E1703.mono
  have f1711 := f1700.mono E1703.mono
  have e1712 : g1703 0 = (.int .i64 (e : Int)) := E1703.facts 0 (by decide)
  have e1713 : g1703 1 = (.bool false) := E1703.facts 1 (by decide)
  have e1714 : g1703 2 = (.bool false) := E1703.facts 2 (by decide)
  have e1715 : g1703 3 = (.int .i64 (e : Int)) := E1703.facts 3 (by decide)
  have e1716 : g1703 4 = (.bool false) := E1703.facts 4 (by decide)
  have e1717 : g1703 5 = (.bool false) := E1703.facts 5 (by decide)
  refine then_normal ?_
  refine wp_cond_false e1717 ?_
  refine wp_skip ?_
  refine then_normal ?_
  refine wp_seq ?_
  refine wp_seq ?_
  have HB : w.heap.size ≤ v1703.heap.size := T1704.size
  refine wp_plan_seq [.val (.is (.int .i64 (e : Int))), .val (.is (.bool true))] [] [] w.heap.size (by kernel_rfl) (by kernel_rfl) trivial HB ?_ ?_
  · exact ⟨fun s v h => does_val rfl rfl (x_move) (h.same 1 rfl),
      fun s v h => does_val rfl rfl (x_geq (h.dep 0 rfl) rfl) (congrArg Value.bool d3), trivial⟩
  intro g1718 ts v1718 hts E1718
  simp only [fillL, Nat.reduceAdd, List.setIfInBounds_toArray, List.set_cons_zero, List.set_cons_succ] at hts
  subst hts
  have T1719 : Below w.heap.size w v1718 := T1704.trans E1718.below
  have l1720 : q1689 < v1703.heap.size := b1707.lt
  have l1721 : q1695 < v1703.heap.size := b1708.lt
  have b1722 : Bx v1718 q1689 24 #[.bool na0, .slice A0 n0 c0] := (E1718.far q1689 b1707.lt (by simp)).trans b1707
  have b1723 : Bx v1718 q1695 24 #[.bool false, .slice none 0 0] := (E1718.far q1695 b1708.lt (by simp)).trans b1708
  have f1724 := f1709.mono E1718.mono
  have f1725 := f1710.mono E1718.mono
  have f1726 := f1711.mono E1718.mono
  have e1727 : g1718 0 = (.int .i64 (e : Int)) := E1718.facts 0 (by decide)
  have e1728 : g1718 1 = (.bool true) := E1718.facts 1 (by decide)
  refine then_normal ?_
  refine wp_cond_true e1728 ?_
  refine wp_seq ?_
  have HB : w.heap.size ≤ v1718.heap.size := T1719.size
  refine wp_plan_any [.val (.az N0 z), .val (.is (.int .i64 (e : Int))), .val (.nz (e / 32 + 1) (2 ^ e)), .val (.az (e / 32 + 1) ((2 ^ e : Nat) : Int)), .val (.cz (z * ((2 ^ e : Nat) : Int))), .put 4 22, .val (.is (.int .i64 0))] [4] [q1695] w.heap.size (by kernel_rfl) (by kernel_rfl) (by kernel_rfl) ⟨p1696, b1723.lt, (by simp), trivial⟩ HB ?_ ?_
  · exact ⟨fun s v h => does_val rfl rfl (x_load_z ((h.same 2 rfl).trans p1690) ((h.far q1689 b1722.lt (nin1 n1702)).trans b1722)) (f1724.mono ((Mono.drew _).trans h.mono)),
      fun s v h => does_val rfl rfl (x_move) (h.same 1 rfl),
      fun s v h => does_call rfl rfl (x_call1 Try.call64) (ztwo_k (h.dep 1 rfl) (by omega) (Nat.le_refl _)),
      fun s v h => does_build_nz rfl rfl (h.dep 2 rfl),
      fun s v h => does_call rfl rfl (x_call2 Try.call16) (mul_k (h.dep 0 rfl) (h.dep 3 rfl) (by omega) (by omega)),
      fun s v h => does_put_z rfl rfl ((h.same 4 rfl).trans p1696) (h.dep 4 rfl).shape (((Mono.drew _).trans h.mono).ok _ _ b1723.ok2) h1701,
      fun s v h => does_val rfl rfl (x_assign) rfl, trivial⟩
  intro g1729 ts v1729 hts E1729
  simp only [fillL, Nat.reduceAdd, List.setIfInBounds_toArray, List.set_cons_zero, List.set_cons_succ] at hts
  subst hts
  have T1730 : Below w.heap.size w v1729 := (below_toDrew T1719).trans E1729.below
  have l1731 : q1689 < v1718.heap.size := b1722.lt
  have l1732 : q1695 < v1718.heap.size := b1723.lt
  have b1733 : Bx v1729 q1689 24 #[.bool na0, .slice A0 n0 c0] := (E1729.far q1689 b1722.lt (nin1 n1702)).trans b1722
  have f1734 := f1724.mono ((Mono.drew _).trans E1729.mono)
  have f1735 := f1725.mono ((Mono.drew _).trans E1729.mono)
  have f1736 := f1726.mono ((Mono.drew _).trans E1729.mono)
  have f1737 : Az N0 v1729 (g1729 0) z := E1729.facts 0 (by decide)
  have e1738 : g1729 1 = (.int .i64 (e : Int)) := E1729.facts 1 (by decide)
  have f1739 : Nz (e / 32 + 1) v1729 (g1729 2) (2 ^ e) := E1729.facts 2 (by decide)
  have f1740 : Az (e / 32 + 1) v1729 (g1729 3) ((2 ^ e : Nat) : Int) := E1729.facts 3 (by decide)
  have f1741 : Cz v1729 (g1729 4) (z * ((2 ^ e : Nat) : Int)) := E1729.facts 4 (by decide)
  have e1742 : g1729 6 = (.int .i64 0) := E1729.facts 6 (by decide)
  obtain ⟨t1743, x1745, A1746, m1747, c1748, e1749, b1744⟩ := put_info (E1729.facts 5 (by decide)) p1696 f1741.shape
  have f1750 : Cz v1729 (.agg #[.bool x1745, .slice A1746 m1747 c1748]) (z * ((2 ^ e : Nat) : Int)) := f1741.at e1749.symm
  refine then_normal ?_
  refine wp_ret ?_
  exact bodyPost_ret (ret_ct rfl p1696 b1744) rfl ⟨_, rfl, ⟨_, _, rfl, f1750, e1742⟩, T1730⟩

set_option maxHeartbeats 4000000 in
set_option maxRecDepth 8000 in
theorem zshift_d {w : World} {x : Value} {z : Int} {N0 : Nat} (h0 : Az N0 w x z) (hN0 : N0 ≤ 1000000000) {e : Nat} (he : e ≤ 65536) (d1 : decide (65536 < -(e : Int)) = false) (d2 : decide (-(e : Int) < -65536) = false) (d3 : decide (0 ≤ -(e : Int)) = false)  : Calls Try.prog 37 #[x, .int .i64 (-(e : Int))] w (Ret (.tup2 (.cz (fl z ((2 ^ e : Nat) : Int))) (.is (.int .i64 0))) w) := by
  have _u := hN0
  have la0 := h0.len
  obtain ⟨na0, A0, n0, c0, M0, rfl, hm0, hz0⟩ := h0.parts
  have T0 : Below w.heap.size w w := Below.refl _ _
  go_enter Try.func37, Try.ntmps37
  refine wp_seq ?_
  have HB : w.heap.size ≤ w.heap.size := T0.size
  refine wp_plan_seq [.new 2 (some (24, #[.bool na0, .slice A0 n0 c0])), .new 2 (some (24, #[.bool false, .slice none 0 0])), .val (.is (.int .i64 0))] [] [] w.heap.size (by kernel_rfl) (by kernel_rfl) trivial HB ?_ ?_
  · exact ⟨fun s v h => does_new rfl rfl (x_box_z (h.same 0 rfl)) (okz _ _ _ _) rfl (.inr rfl),
      fun s v h => does_new rfl rfl x_alloc_z (okz _ _ _ _) rfl (.inr rfl),
      fun s v h => does_val rfl rfl (x_assign) rfl, trivial⟩
  intro g1751 ts v1751 hts E1751
  simp only [fillL, Nat.reduceAdd, List.setIfInBounds_toArray, List.set_cons_zero, List.set_cons_succ] at hts
  subst hts
  have T1752 : Below w.heap.size w v1751 := T0.trans E1751.below
  have f1753 := h0.mono E1751.mono
  have f1754 := hm0.mono E1751.mono
  have e1755 : g1751 2 = (.int .i64 0) := E1751.facts 2 (by decide)
  obtain ⟨q1756, p1757, l1758, o1759, b1760⟩ : ∃ q, g1751 0 = .pointer (some ⟨q, 0, none⟩) ∧ w.heap.size ≤ q ∧ OkB v1751 q 2 ∧ Bx v1751 q 24 #[.bool na0, .slice A0 n0 c0] := E1751.facts 0 (by decide)
  have h1761 : w.heap.size ≤ q1756 := Nat.le_trans HB l1758
  obtain ⟨q1762, p1763, l1764, o1765, b1766⟩ : ∃ q, g1751 1 = .pointer (some ⟨q, 0, none⟩) ∧ w.heap.size ≤ q ∧ OkB v1751 q 2 ∧ Bx v1751 q 24 #[.bool false, .slice none 0 0] := E1751.facts 1 (by decide)
  have f1767 : Cz v1751 (.agg #[.bool false, .slice none 0 0]) 0 := cz_zero _
  have h1768 : w.heap.size ≤ q1762 := Nat.le_trans HB l1764
  have n1769 : q1756 ≠ q1762 := apart_ne (E1751.apart 0 1 (by decide) (by decide) (by decide) ⟨_, _, rfl⟩ ⟨_, _, rfl⟩) p1757 p1763
  refine then_normal ?_
  refine wp_seq ?_
  refine wp_seq ?_
  have HB : w.heap.size ≤ v1751.heap.size := T1752.size
  refine wp_plan_seq [.val (.is (.int .i64 (-(e : Int)))), .val (.is (.bool false)), .val (.is (.bool false)), .val (.is (.int .i64 (-(e : Int)))), .val (.is (.bool false)), .val (.is (.bool false))] [] [] w.heap.size (by kernel_rfl) (by kernel_rfl) trivial HB ?_ ?_
  · exact ⟨fun s v h => does_val rfl rfl (x_move) (h.same 1 rfl),
      fun s v h => does_val rfl rfl (x_gtr (h.dep 0 rfl) rfl) (congrArg Value.bool d1),
      fun s v h => does_val rfl rfl (x_move) (h.dep 1 rfl),
      fun s v h => does_val rfl (wanted_by (b := false) (want := false) rfl rfl (h.dep 2 rfl)) (x_move) (h.same 1 rfl),
      fun s v h => does_val rfl (wanted_by (b := false) (want := false) rfl rfl (h.dep 2 rfl)) (x_lss (h.dep 3 rfl) rfl) (congrArg Value.bool d2),
      fun s v h => does_val rfl rfl (x_pick (h.dep 2 rfl)) (h.dep 4 rfl), trivial⟩
  intro g1770 ts v1770 hts E1770
  simp only [fillL, Nat.reduceAdd, List.setIfInBounds_toArray, List.set_cons_zero, List.set_cons_succ] at hts
  subst hts
  have T1771 : Below w.heap.size w v1770 := T1752.trans E1770.below
  have l1772 : q1756 < v1751.heap.size := b1760.lt
  have l1773 : q1762 < v1751.heap.size := b1766.lt
  have b1774 : Bx v1770 q1756 24 #[.bool na0, .slice A0 n0 c0] := (E1770.far q1756 b1760.lt (by simp)).trans b1760
  have b1775 : Bx v1770 q1762 24 #[.bool false, .slice none 0 0] := (E1770.far q1762 b1766.lt (by simp)).trans b1766
  have f1776 := f1753.mono E1770.mono
  have f1777 := f1754.mono E1770.mono
  have f1778 := f1767.mono E1770.mono
  have e1779 : g1770 0 = (.int .i64 (-(e : Int))) := E1770.facts 0 (by decide)
  have e1780 : g1770 1 = (.bool false) := E1770.facts 1 (by decide)
  have e1781 : g1770 2 = (.bool false) := E1770.facts 2 (by decide)
  have e1782 : g1770 3 = (.int .i64 (-(e : Int))) := E1770.facts 3 (by decide)
  have e1783 : g1770 4 = (.bool false) := E1770.facts 4 (by decide)
  have e1784 : g1770 5 = (.bool false) := E1770.facts 5 (by decide)
  refine then_normal ?_
  refine wp_cond_false e1784 ?_
  refine wp_skip ?_
  refine then_normal ?_
  refine wp_seq ?_
  refine wp_seq ?_
  have HB : w.heap.size ≤ v1770.heap.size := T1771.size
  refine wp_plan_seq [.val (.is (.int .i64 (-(e : Int)))), .val (.is (.bool false))] [] [] w.heap.size (by kernel_rfl) (by kernel_rfl) trivial HB ?_ ?_
  · exact ⟨fun s v h => does_val rfl rfl (x_move) (h.same 1 rfl),
      fun s v h => does_val rfl rfl (x_geq (h.dep 0 rfl) rfl) (congrArg Value.bool d3), trivial⟩
  intro g1785 ts v1785 hts E1785
  simp only [fillL, Nat.reduceAdd, List.setIfInBounds_toArray, List.set_cons_zero, List.set_cons_succ] at hts
  subst hts
  have T1786 : Below w.heap.size w v1785 := T1771.trans E1785.below
  have l1787 : q1756 < v1770.heap.size := b1774.lt
  have l1788 : q1762 < v1770.heap.size := b1775.lt
  have b1789 : Bx v1785 q1756 24 #[.bool na0, .slice A0 n0 c0] := (E1785.far q1756 b1774.lt (by simp)).trans b1774
  have b1790 : Bx v1785 q1762 24 #[.bool false, .slice none 0 0] := (E1785.far q1762 b1775.lt (by simp)).trans b1775
  have f1791 := f1776.mono E1785.mono
  have f1792 := f1777.mono E1785.mono
  have f1793 := f1778.mono E1785.mono
  have e1794 : g1785 0 = (.int .i64 (-(e : Int))) := E1785.facts 0 (by decide)
  have e1795 : g1785 1 = (.bool false) := E1785.facts 1 (by decide)
  refine then_normal ?_
  refine wp_cond_false e1795 ?_
  refine wp_skip ?_
  refine then_normal ?_
  refine wp_seq ?_
  have HB : w.heap.size ≤ v1785.heap.size := T1786.size
  refine wp_plan_any [.val (.az N0 z), .val (.is (.int .i64 (-(e : Int)))), .val (.is (.int .i64 (e : Int))), .val (.nz (e / 32 + 1) (2 ^ e)), .val (.az (e / 32 + 1) ((2 ^ e : Nat) : Int)), .val (.tup3 (.cz (fl z ((2 ^ e : Nat) : Int))) (.cz (md z ((2 ^ e : Nat) : Int))) (.is (.int .i64 0))), .val (.tup3 (.cz (fl z ((2 ^ e : Nat) : Int))) (.cz (md z ((2 ^ e : Nat) : Int))) (.is (.int .i64 0))), .val (.cz (fl z ((2 ^ e : Nat) : Int))), .val (.cz (md z ((2 ^ e : Nat) : Int))), .val (.is (.int .i64 0)), .new 2 none, .new 2 none, .put 6 30, .put 7 31, .val (.is (.int .i64 0))] [] [] w.heap.size (by kernel_rfl) (by kernel_rfl) (by kernel_rfl) trivial HB ?_ ?_
  · exact ⟨fun s v h => does_val rfl rfl (x_load_z ((h.same 2 rfl).trans p1757) ((h.far q1756 b1789.lt (by simp)).trans b1789)) (f1791.mono ((Mono.drew _).trans h.mono)),
      fun s v h => does_val rfl rfl (x_move) (h.same 1 rfl),
      fun s v h => does_val rfl rfl (x_neg (h.dep 1 rfl) (by rw [IntKind.wrap_i64]; omega)) (congrArg (Value.int .i64) (Int.neg_neg _)),
      fun s v h => does_call rfl rfl (x_call1 Try.call64) (ztwo_k (h.dep 2 rfl) (by omega) (Nat.le_refl _)),
      fun s v h => does_build_nz rfl rfl (h.dep 3 rfl),
      fun s v h => does_call rfl rfl (x_call2 Try.call24) (zfloor_k (h.dep 0 rfl) (h.dep 4 rfl) (by omega) (by omega) (by have := pow_pos2 e; omega)),
      fun s v h => does_val rfl rfl (x_move) (h.dep 5 rfl),
      fun s v h => by obtain ⟨r0, r1, r2, e, f0, f1, f2⟩ := tup3_at (h.dep 6 rfl); exact does_val rfl rfl (x_ext e rfl) f0,
      fun s v h => by obtain ⟨r0, r1, r2, e, f0, f1, f2⟩ := tup3_at (h.dep 6 rfl); exact does_val rfl rfl (x_ext e rfl) f1,
      fun s v h => by obtain ⟨r0, r1, r2, e, f0, f1, f2⟩ := tup3_at (h.dep 6 rfl); exact does_val rfl rfl (x_ext e rfl) f2,
      fun s v h => does_new rfl rfl x_alloc_z (okz _ _ _ _) rfl (.inl rfl),
      fun s v h => does_new rfl rfl x_alloc_z (okz _ _ _ _) rfl (.inl rfl),
      fun s v h => by obtain ⟨q, e1, e2, e3⟩ := new_at (h.dep 10 rfl); exact does_put_z rfl rfl e1 (h.dep 7 rfl).shape e3 (Nat.le_trans HB e2),
      fun s v h => by obtain ⟨q, e1, e2, e3⟩ := new_at (h.dep 11 rfl); exact does_put_z rfl rfl e1 (h.dep 8 rfl).shape e3 (Nat.le_trans HB e2),
      fun s v h => does_val rfl rfl (x_assign) (h.dep 9 rfl), trivial⟩
  intro g1796 ts v1796 hts E1796
  simp only [fillL, Nat.reduceAdd, List.setIfInBounds_toArray, List.set_cons_zero, List.set_cons_succ] at hts
  subst hts
  have T1797 : Below w.heap.size w v1796 := (below_toDrew T1786).trans E1796.below
  have l1798 : q1756 < v1785.heap.size := b1789.lt
  have l1799 : q1762 < v1785.heap.size := b1790.lt
  have b1800 : Bx v1796 q1756 24 #[.bool na0, .slice A0 n0 c0] := (E1796.far q1756 b1789.lt (by simp)).trans b1789
  have b1801 : Bx v1796 q1762 24 #[.bool false, .slice none 0 0] := (E1796.far q1762 b1790.lt (by simp)).trans b1790
  have f1802 := f1791.mono ((Mono.drew _).trans E1796.mono)
  have f1803 := f1792.mono ((Mono.drew _).trans E1796.mono)
  have f1804 := f1793.mono ((Mono.drew _).trans E1796.mono)
  have f1805 : Az N0 v1796 (g1796 0) z := E1796.facts 0 (by decide)
  have e1806 : g1796 1 = (.int .i64 (-(e : Int))) := E1796.facts 1 (by decide)
  have e1807 : g1796 2 = (.int .i64 (e : Int)) := E1796.facts 2 (by decide)
  have f1808 : Nz (e / 32 + 1) v1796 (g1796 3) (2 ^ e) := E1796.facts 3 (by decide)
  have f1809 : Az (e / 32 + 1) v1796 (g1796 4) ((2 ^ e : Nat) : Int) := E1796.facts 4 (by decide)
  have f1810 : Cz v1796 (g1796 7) (fl z ((2 ^ e : Nat) : Int)) := E1796.facts 7 (by decide)
  have f1811 : Cz v1796 (g1796 8) (md z ((2 ^ e : Nat) : Int)) := E1796.facts 8 (by decide)
  have e1812 : g1796 9 = (.int .i64 0) := E1796.facts 9 (by decide)
  have e1813 : g1796 14 = (.int .i64 0) := E1796.facts 14 (by decide)
  obtain ⟨q1814, p1815, l1816, o1817⟩ : ∃ q, g1796 10 = .pointer (some ⟨q, 0, none⟩) ∧ v1785.heap.size ≤ q ∧ OkB v1796 q 2 := E1796.facts 10 (by decide)
  have h1818 : w.heap.size ≤ q1814 := Nat.le_trans HB l1816
  have n1819 : q1756 ≠ q1814 := by omega
  have n1820 : q1762 ≠ q1814 := by omega
  obtain ⟨q1821, p1822, l1823, o1824⟩ : ∃ q, g1796 11 = .pointer (some ⟨q, 0, none⟩) ∧ v1785.heap.size ≤ q ∧ OkB v1796 q 2 := E1796.facts 11 (by decide)
  have h1825 : w.heap.size ≤ q1821 := Nat.le_trans HB l1823
  have n1826 : q1756 ≠ q1821 := by omega
  have n1827 : q1762 ≠ q1821 := by omega
  have n1828 : q1814 ≠ q1821 := apart_ne (E1796.apart 10 11 (by decide) (by decide) (by decide) ⟨_, _, rfl⟩ ⟨_, _, rfl⟩) p1815 p1822
  obtain ⟨t1829, x1831, A1832, m1833, c1834, e1835, b1830⟩ := put_info (E1796.facts 12 (by decide)) p1815 f1810.shape
  have f1836 : Cz v1796 (.agg #[.bool x1831, .slice A1832 m1833 c1834]) (fl z ((2 ^ e : Nat) : Int)) := f1810.at e1835.symm
  obtain ⟨t1837, x1839, A1840, m1841, c1842, e1843, b1838⟩ := put_info (E1796.facts 13 (by decide)) p1822 f1811.shape
  have f1844 : Cz v1796 (.agg #[.bool x1839, .slice A1840 m1841 c1842]) (md z ((2 ^ e : Nat) : Int)) := f1811.at e1843.symm
  refine then_normal ?_
  refine wp_seq ?_
  have HB : w.heap.size ≤ v1796.heap.size := T1797.size
  refine wp_plan_seq [.val (.cz (fl z ((2 ^ e : Nat) : Int))), .put 4 33, .val (.is (.int .i64 0))] [4] [q1762] w.heap.size (by kernel_rfl) (by kernel_rfl) ⟨p1763, b1801.lt, (by simp), trivial⟩ HB ?_ ?_
  · exact ⟨fun s v h => does_val rfl rfl (x_load_z ((h.same 6 rfl).trans p1815) ((h.far q1814 b1830.lt (nin1 n1820.symm)).trans b1830)) (f1836.mono h.mono),
      fun s v h => does_put_z rfl rfl ((h.same 4 rfl).trans p1763) (h.dep 0 rfl).shape (h.mono.ok _ _ b1801.ok2) h1768,
      fun s v h => does_val rfl rfl (x_assign) rfl, trivial⟩
  intro g1845 ts v1845 hts E1845
  simp only [fillL, Nat.reduceAdd, List.setIfInBounds_toArray, List.set_cons_zero, List.set_cons_succ] at hts
  subst hts
  have T1846 : Below w.heap.size w v1845 := T1797.trans E1845.below
  have l1847 : q1756 < v1796.heap.size := b1800.lt
  have l1848 : q1762 < v1796.heap.size := b1801.lt
  have l1849 : q1814 < v1796.heap.size := b1830.lt
  have l1850 : q1821 < v1796.heap.size := b1838.lt
  have b1851 : Bx v1845 q1756 24 #[.bool na0, .slice A0 n0 c0] := (E1845.far q1756 b1800.lt (nin1 n1769)).trans b1800
  have b1852 : Bx v1845 q1814 t1829 #[.bool x1831, .slice A1832 m1833 c1834] := (E1845.far q1814 b1830.lt (nin1 n1820.symm)).trans b1830
  have b1853 : Bx v1845 q1821 t1837 #[.bool x1839, .slice A1840 m1841 c1842] := (E1845.far q1821 b1838.lt (nin1 n1827.symm)).trans b1838
  have f1854 := f1802.mono E1845.mono
  have f1855 := f1803.mono E1845.mono
  have f1856 := f1804.mono E1845.mono
  have f1857 := f1805.mono E1845.mono
  have f1858 := f1808.mono E1845.mono
  have f1859 := f1809.mono E1845.mono
  have f1860 := f1810.mono E1845.mono
  have f1861 := f1811.mono E1845.mono
  have f1862 := f1836.mono E1845.mono
  have f1863 := f1844.mono E1845.mono
  have f1864 : Cz v1845 (g1845 0) (fl z ((2 ^ e : Nat) : Int)) := E1845.facts 0 (by decide)
  have e1865 : g1845 2 = (.int .i64 0) := E1845.facts 2 (by decide)
  obtain ⟨t1866, x1868, A1869, m1870, c1871, e1872, b1867⟩ := put_info (E1845.facts 1 (by decide)) p1763 f1864.shape
  have f1873 : Cz v1845 (.agg #[.bool x1868, .slice A1869 m1870 c1871]) (fl z ((2 ^ e : Nat) : Int)) := f1864.at e1872.symm
  refine then_normal ?_
  refine wp_ret ?_
  exact bodyPost_ret (ret_ct rfl p1763 b1867) rfl ⟨_, rfl, ⟨_, _, rfl, f1873, e1865⟩, T1846⟩

set_option maxHeartbeats 4000000 in
set_option maxRecDepth 8000 in
theorem rshift_a {w : World} {x : Value} {z : Int} {N0 : Nat} (h0 : Az N0 w x z) (hN0 : N0 ≤ 1000000000) {n : Int} (d1 : decide (65536 < n) = true)  : Calls Try.prog 38 #[x, .int .i64 n] w (Ret (.tup2 (.cz 0) (.is (.int .i64 2))) w) := by
  have _u := hN0
  have la0 := h0.len
  obtain ⟨na0, A0, n0, c0, M0, rfl, hm0, hz0⟩ := h0.parts
  have T0 : Below w.heap.size w w := Below.refl _ _
  go_enter Try.func38, Try.ntmps38
  refine wp_seq ?_
  have HB : w.heap.size ≤ w.heap.size := T0.size
  refine wp_plan_seq [.new 2 (some (24, #[.bool na0, .slice A0 n0 c0])), .new 2 (some (24, #[.bool false, .slice none 0 0])), .val (.is (.int .i64 0))] [] [] w.heap.size (by kernel_rfl) (by kernel_rfl) trivial HB ?_ ?_
  · exact ⟨fun s v h => does_new rfl rfl (x_box_z (h.same 0 rfl)) (okz _ _ _ _) rfl (.inr rfl),
      fun s v h => does_new rfl rfl x_alloc_z (okz _ _ _ _) rfl (.inr rfl),
      fun s v h => does_val rfl rfl (x_assign) rfl, trivial⟩
  intro g1874 ts v1874 hts E1874
  simp only [fillL, Nat.reduceAdd, List.setIfInBounds_toArray, List.set_cons_zero, List.set_cons_succ] at hts
  subst hts
  have T1875 : Below w.heap.size w v1874 := T0.trans E1874.below
  have f1876 := h0.mono E1874.mono
  have f1877 := hm0.mono E1874.mono
  have e1878 : g1874 2 = (.int .i64 0) := E1874.facts 2 (by decide)
  obtain ⟨q1879, p1880, l1881, o1882, b1883⟩ : ∃ q, g1874 0 = .pointer (some ⟨q, 0, none⟩) ∧ w.heap.size ≤ q ∧ OkB v1874 q 2 ∧ Bx v1874 q 24 #[.bool na0, .slice A0 n0 c0] := E1874.facts 0 (by decide)
  have h1884 : w.heap.size ≤ q1879 := Nat.le_trans HB l1881
  obtain ⟨q1885, p1886, l1887, o1888, b1889⟩ : ∃ q, g1874 1 = .pointer (some ⟨q, 0, none⟩) ∧ w.heap.size ≤ q ∧ OkB v1874 q 2 ∧ Bx v1874 q 24 #[.bool false, .slice none 0 0] := E1874.facts 1 (by decide)
  have f1890 : Cz v1874 (.agg #[.bool false, .slice none 0 0]) 0 := cz_zero _
  have h1891 : w.heap.size ≤ q1885 := Nat.le_trans HB l1887
  have n1892 : q1879 ≠ q1885 := apart_ne (E1874.apart 0 1 (by decide) (by decide) (by decide) ⟨_, _, rfl⟩ ⟨_, _, rfl⟩) p1880 p1886
  refine then_normal ?_
  refine wp_seq ?_
  refine wp_block ?_
  refine wp_seq ?_
  have HB : w.heap.size ≤ v1874.heap.size := T1875.size
  refine wp_plan_seq [.val (.is (.int .i64 n)), .val (.is (.bool true)), .val (.is (.bool true)), .val .any, .val .any, .val (.is (.bool true)), .val (.is (.bool true))] [] [] w.heap.size (by kernel_rfl) (by kernel_rfl) trivial HB ?_ ?_
  · exact ⟨fun s v h => does_val rfl rfl (x_move) (h.same 1 rfl),
      fun s v h => does_val rfl rfl (x_gtr (h.dep 0 rfl) rfl) (congrArg Value.bool d1),
      fun s v h => does_val rfl rfl (x_move) (h.dep 1 rfl),
      fun s v h => does_skip rfl (wanted_by (b := true) (want := false) rfl rfl (h.dep 2 rfl)) trivial,
      fun s v h => does_skip rfl (wanted_by (b := true) (want := false) rfl rfl (h.dep 2 rfl)) trivial,
      fun s v h => does_val rfl rfl (x_pick (h.dep 2 rfl)) rfl,
      fun s v h => does_val rfl rfl (x_assign) (h.dep 5 rfl), trivial⟩
  intro g1893 ts v1893 hts E1893
  simp only [fillL, Nat.reduceAdd, List.setIfInBounds_toArray, List.set_cons_zero, List.set_cons_succ] at hts
  subst hts
  have T1894 : Below w.heap.size w v1893 := T1875.trans E1893.below
  have l1895 : q1879 < v1874.heap.size := b1883.lt
  have l1896 : q1885 < v1874.heap.size := b1889.lt
  have b1897 : Bx v1893 q1879 24 #[.bool na0, .slice A0 n0 c0] := (E1893.far q1879 b1883.lt (by simp)).trans b1883
  have b1898 : Bx v1893 q1885 24 #[.bool false, .slice none 0 0] := (E1893.far q1885 b1889.lt (by simp)).trans b1889
  have f1899 := f1876.mono E1893.mono
  have f1900 := f1877.mono E1893.mono
  have f1901 := f1890.mono E1893.mono
  have e1902 : g1893 0 = (.int .i64 n) := E1893.facts 0 (by decide)
  have e1903 : g1893 1 = (.bool true) := E1893.facts 1 (by decide)
  have e1904 : g1893 2 = (.bool true) := E1893.facts 2 (by decide)
  have e1905 : g1893 5 = (.bool true) := E1893.facts 5 (by decide)
  have e1906 : g1893 6 = (.bool true) := E1893.facts 6 (by decide)
  refine then_normal ?_
  refine wp_cond_true e1906 ?_
  refine wp_seq ?_
  have HB : w.heap.size ≤ v1893.heap.size := T1894.size
  refine wp_plan_seq [.val (.is (.agg #[.bool false, .slice none 0 0])), .put 4 15, .val (.is (.int .i64 2))] [4] [q1885] w.heap.size (by kernel_rfl) (by kernel_rfl) ⟨p1886, b1898.lt, (by simp), trivial⟩ HB ?_ ?_
  · exact ⟨fun s v h => does_val rfl rfl x_build0 rfl,
      fun s v h => does_put_z rfl rfl ((h.same 4 rfl).trans p1886) ⟨_, _, _, _, (h.dep 0 rfl)⟩ (h.mono.ok _ _ b1898.ok2) h1891,
      fun s v h => does_val rfl rfl (x_assign) rfl, trivial⟩
  intro g1907 ts v1907 hts E1907
  simp only [fillL, Nat.reduceAdd, List.setIfInBounds_toArray, List.set_cons_zero, List.set_cons_succ] at hts
  subst hts
  have T1908 : Below w.heap.size w v1907 := T1894.trans E1907.below
  have l1909 : q1879 < v1893.heap.size := b1897.lt
  have l1910 : q1885 < v1893.heap.size := b1898.lt
  have b1911 : Bx v1907 q1879 24 #[.bool na0, .slice A0 n0 c0] := (E1907.far q1879 b1897.lt (nin1 n1892)).trans b1897
  have f1912 := f1899.mono E1907.mono
  have f1913 := f1900.mono E1907.mono
  have f1914 := f1901.mono E1907.mono
  have e1915 : g1907 0 = (.agg #[.bool false, .slice none 0 0]) := E1907.facts 0 (by decide)
  have e1916 : g1907 2 = (.int .i64 2) := E1907.facts 2 (by decide)
  obtain ⟨t1917, b1918⟩ := put_lit (E1907.facts 1 (by decide)) p1886 e1915
  have f1919 : Cz v1907 (.agg #[.bool false, .slice none 0 0]) 0 := cz_zero _
  refine then_normal ?_
  refine wp_ret ?_
  exact bodyPost_ret (ret_ct rfl p1886 b1918) rfl ⟨_, rfl, ⟨_, _, rfl, f1919, e1916⟩, T1908⟩

set_option maxHeartbeats 4000000 in
set_option maxRecDepth 8000 in
theorem rshift_b {w : World} {x : Value} {z : Int} {N0 : Nat} (h0 : Az N0 w x z) (hN0 : N0 ≤ 1000000000) {n : Int} (d1 : decide (65536 < n) = false) (d2 : decide (n < -65536) = true)  : Calls Try.prog 38 #[x, .int .i64 n] w (Ret (.tup2 (.cz 0) (.is (.int .i64 2))) w) := by
  have _u := hN0
  have la0 := h0.len
  obtain ⟨na0, A0, n0, c0, M0, rfl, hm0, hz0⟩ := h0.parts
  have T0 : Below w.heap.size w w := Below.refl _ _
  go_enter Try.func38, Try.ntmps38
  refine wp_seq ?_
  have HB : w.heap.size ≤ w.heap.size := T0.size
  refine wp_plan_seq [.new 2 (some (24, #[.bool na0, .slice A0 n0 c0])), .new 2 (some (24, #[.bool false, .slice none 0 0])), .val (.is (.int .i64 0))] [] [] w.heap.size (by kernel_rfl) (by kernel_rfl) trivial HB ?_ ?_
  · exact ⟨fun s v h => does_new rfl rfl (x_box_z (h.same 0 rfl)) (okz _ _ _ _) rfl (.inr rfl),
      fun s v h => does_new rfl rfl x_alloc_z (okz _ _ _ _) rfl (.inr rfl),
      fun s v h => does_val rfl rfl (x_assign) rfl, trivial⟩
  intro g1920 ts v1920 hts E1920
  simp only [fillL, Nat.reduceAdd, List.setIfInBounds_toArray, List.set_cons_zero, List.set_cons_succ] at hts
  subst hts
  have T1921 : Below w.heap.size w v1920 := T0.trans E1920.below
  have f1922 := h0.mono E1920.mono
  have f1923 := hm0.mono E1920.mono
  have e1924 : g1920 2 = (.int .i64 0) := E1920.facts 2 (by decide)
  obtain ⟨q1925, p1926, l1927, o1928, b1929⟩ : ∃ q, g1920 0 = .pointer (some ⟨q, 0, none⟩) ∧ w.heap.size ≤ q ∧ OkB v1920 q 2 ∧ Bx v1920 q 24 #[.bool na0, .slice A0 n0 c0] := E1920.facts 0 (by decide)
  have h1930 : w.heap.size ≤ q1925 := Nat.le_trans HB l1927
  obtain ⟨q1931, p1932, l1933, o1934, b1935⟩ : ∃ q, g1920 1 = .pointer (some ⟨q, 0, none⟩) ∧ w.heap.size ≤ q ∧ OkB v1920 q 2 ∧ Bx v1920 q 24 #[.bool false, .slice none 0 0] := E1920.facts 1 (by decide)
  have f1936 : Cz v1920 (.agg #[.bool false, .slice none 0 0]) 0 := cz_zero _
  have h1937 : w.heap.size ≤ q1931 := Nat.le_trans HB l1933
  have n1938 : q1925 ≠ q1931 := apart_ne (E1920.apart 0 1 (by decide) (by decide) (by decide) ⟨_, _, rfl⟩ ⟨_, _, rfl⟩) p1926 p1932
  refine then_normal ?_
  refine wp_seq ?_
  refine wp_block ?_
  refine wp_seq ?_
  have HB : w.heap.size ≤ v1920.heap.size := T1921.size
  refine wp_plan_seq [.val (.is (.int .i64 n)), .val (.is (.bool false)), .val (.is (.bool false)), .val (.is (.int .i64 n)), .val (.is (.bool true)), .val (.is (.bool true)), .val (.is (.bool true))] [] [] w.heap.size (by kernel_rfl) (by kernel_rfl) trivial HB ?_ ?_
  · exact ⟨fun s v h => does_val rfl rfl (x_move) (h.same 1 rfl),
      fun s v h => does_val rfl rfl (x_gtr (h.dep 0 rfl) rfl) (congrArg Value.bool d1),
      fun s v h => does_val rfl rfl (x_move) (h.dep 1 rfl),
      fun s v h => does_val rfl (wanted_by (b := false) (want := false) rfl rfl (h.dep 2 rfl)) (x_move) (h.same 1 rfl),
      fun s v h => does_val rfl (wanted_by (b := false) (want := false) rfl rfl (h.dep 2 rfl)) (x_lss (h.dep 3 rfl) rfl) (congrArg Value.bool d2),
      fun s v h => does_val rfl rfl (x_pick (h.dep 2 rfl)) (h.dep 4 rfl),
      fun s v h => does_val rfl rfl (x_assign) (h.dep 5 rfl), trivial⟩
  intro g1939 ts v1939 hts E1939
  simp only [fillL, Nat.reduceAdd, List.setIfInBounds_toArray, List.set_cons_zero, List.set_cons_succ] at hts
  subst hts
  have T1940 : Below w.heap.size w v1939 := T1921.trans E1939.below
  have l1941 : q1925 < v1920.heap.size := b1929.lt
  have l1942 : q1931 < v1920.heap.size := b1935.lt
  have b1943 : Bx v1939 q1925 24 #[.bool na0, .slice A0 n0 c0] := (E1939.far q1925 b1929.lt (by simp)).trans b1929
  have b1944 : Bx v1939 q1931 24 #[.bool false, .slice none 0 0] := (E1939.far q1931 b1935.lt (by simp)).trans b1935
  have f1945 := f1922.mono E1939.mono
  have f1946 := f1923.mono E1939.mono
  have f1947 := f1936.mono E1939.mono
  have e1948 : g1939 0 = (.int .i64 n) := E1939.facts 0 (by decide)
  have e1949 : g1939 1 = (.bool false) := E1939.facts 1 (by decide)
  have e1950 : g1939 2 = (.bool false) := E1939.facts 2 (by decide)
  have e1951 : g1939 3 = (.int .i64 n) := E1939.facts 3 (by decide)
  have e1952 : g1939 4 = (.bool true) := E1939.facts 4 (by decide)
  have e1953 : g1939 5 = (.bool true) := E1939.facts 5 (by decide)
  have e1954 : g1939 6 = (.bool true) := E1939.facts 6 (by decide)
  refine then_normal ?_
  refine wp_cond_true e1954 ?_
  refine wp_seq ?_
  have HB : w.heap.size ≤ v1939.heap.size := T1940.size
  refine wp_plan_seq [.val (.is (.agg #[.bool false, .slice none 0 0])), .put 4 15, .val (.is (.int .i64 2))] [4] [q1931] w.heap.size (by kernel_rfl) (by kernel_rfl) ⟨p1932, b1944.lt, (by simp), trivial⟩ HB ?_ ?_
  · exact ⟨fun s v h => does_val rfl rfl x_build0 rfl,
      fun s v h => does_put_z rfl rfl ((h.same 4 rfl).trans p1932) ⟨_, _, _, _, (h.dep 0 rfl)⟩ (h.mono.ok _ _ b1944.ok2) h1937,
      fun s v h => does_val rfl rfl (x_assign) rfl, trivial⟩
  intro g1955 ts v1955 hts E1955
  simp only [fillL, Nat.reduceAdd, List.setIfInBounds_toArray, List.set_cons_zero, List.set_cons_succ] at hts
  subst hts
  have T1956 : Below w.heap.size w v1955 := T1940.trans E1955.below
  have l1957 : q1925 < v1939.heap.size := b1943.lt
  have l1958 : q1931 < v1939.heap.size := b1944.lt
  have b1959 : Bx v1955 q1925 24 #[.bool na0, .slice A0 n0 c0] := (E1955.far q1925 b1943.lt (nin1 n1938)).trans b1943
  have f1960 := f1945.mono E1955.mono
  have f1961 := f1946.mono E1955.mono
  have f1962 := f1947.mono E1955.mono
  have e1963 : g1955 0 = (.agg #[.bool false, .slice none 0 0]) := E1955.facts 0 (by decide)
  have e1964 : g1955 2 = (.int .i64 2) := E1955.facts 2 (by decide)
  obtain ⟨t1965, b1966⟩ := put_lit (E1955.facts 1 (by decide)) p1932 e1963
  have f1967 : Cz v1955 (.agg #[.bool false, .slice none 0 0]) 0 := cz_zero _
  refine then_normal ?_
  refine wp_ret ?_
  exact bodyPost_ret (ret_ct rfl p1932 b1966) rfl ⟨_, rfl, ⟨_, _, rfl, f1967, e1964⟩, T1956⟩

set_option maxHeartbeats 4000000 in
set_option maxRecDepth 8000 in
theorem rshift_c {w : World} {x : Value} {z : Int} {N0 : Nat} (h0 : Az N0 w x z) (hN0 : N0 ≤ 1000000000) {e : Nat} (he : e ≤ 65536) (d1 : decide (65536 < (e : Int)) = false) (d2 : decide ((e : Int) < -65536) = false) (d3 : decide (0 ≤ (e : Int)) = true)  : Calls Try.prog 38 #[x, .int .i64 (e : Int)] w (Ret (.tup2 (.cz (z * ((2 ^ e : Nat) : Int))) (.is (.int .i64 0))) w) := by
  have _u := hN0
  have la0 := h0.len
  obtain ⟨na0, A0, n0, c0, M0, rfl, hm0, hz0⟩ := h0.parts
  have T0 : Below w.heap.size w w := Below.refl _ _
  go_enter Try.func38, Try.ntmps38
  refine wp_seq ?_
  have HB : w.heap.size ≤ w.heap.size := T0.size
  refine wp_plan_seq [.new 2 (some (24, #[.bool na0, .slice A0 n0 c0])), .new 2 (some (24, #[.bool false, .slice none 0 0])), .val (.is (.int .i64 0))] [] [] w.heap.size (by kernel_rfl) (by kernel_rfl) trivial HB ?_ ?_
  · exact ⟨fun s v h => does_new rfl rfl (x_box_z (h.same 0 rfl)) (okz _ _ _ _) rfl (.inr rfl),
      fun s v h => does_new rfl rfl x_alloc_z (okz _ _ _ _) rfl (.inr rfl),
      fun s v h => does_val rfl rfl (x_assign) rfl, trivial⟩
  intro g1968 ts v1968 hts E1968
  simp only [fillL, Nat.reduceAdd, List.setIfInBounds_toArray, List.set_cons_zero, List.set_cons_succ] at hts
  subst hts
  have T1969 : Below w.heap.size w v1968 := T0.trans E1968.below
  have f1970 := h0.mono E1968.mono
  have f1971 := hm0.mono E1968.mono
  have e1972 : g1968 2 = (.int .i64 0) := E1968.facts 2 (by decide)
  obtain ⟨q1973, p1974, l1975, o1976, b1977⟩ : ∃ q, g1968 0 = .pointer (some ⟨q, 0, none⟩) ∧ w.heap.size ≤ q ∧ OkB v1968 q 2 ∧ Bx v1968 q 24 #[.bool na0, .slice A0 n0 c0] := E1968.facts 0 (by decide)
  have h1978 : w.heap.size ≤ q1973 := Nat.le_trans HB l1975
  obtain ⟨q1979, p1980, l1981, o1982, b1983⟩ : ∃ q, g1968 1 = .pointer (some ⟨q, 0, none⟩) ∧ w.heap.size ≤ q ∧ OkB v1968 q 2 ∧ Bx v1968 q 24 #[.bool false, .slice none 0 0] := E1968.facts 1 (by decide)
  have f1984 : Cz v1968 (.agg #[.bool false, .slice none 0 0]) 0 := cz_zero _
  have h1985 : w.heap.size ≤ q1979 := Nat.le_trans HB l1981
  have n1986 : q1973 ≠ q1979 := apart_ne (E1968.apart 0 1 (by decide) (by decide) (by decide) ⟨_, _, rfl⟩ ⟨_, _, rfl⟩) p1974 p1980
  refine then_normal ?_
  refine wp_seq ?_
  refine wp_block ?_
  refine wp_seq ?_
  have HB : w.heap.size ≤ v1968.heap.size := T1969.size
  refine wp_plan_seq [.val (.is (.int .i64 (e : Int))), .val (.is (.bool false)), .val (.is (.bool false)), .val (.is (.int .i64 (e : Int))), .val (.is (.bool false)), .val (.is (.bool false)), .val (.is (.bool false))] [] [] w.heap.size (by kernel_rfl) (by kernel_rfl) trivial HB ?_ ?_
  · exact ⟨fun s v h => does_val rfl rfl (x_move) (h.same 1 rfl),
      fun s v h => does_val rfl rfl (x_gtr (h.dep 0 rfl) rfl) (congrArg Value.bool d1),
      fun s v h => does_val rfl rfl (x_move) (h.dep 1 rfl),
      fun s v h => does_val rfl (wanted_by (b := false) (want := false) rfl rfl (h.dep 2 rfl)) (x_move) (h.same 1 rfl),
      fun s v h => does_val rfl (wanted_by (b := false) (want := false) rfl rfl (h.dep 2 rfl)) (x_lss (h.dep 3 rfl) rfl) (congrArg Value.bool d2),
      fun s v h => does_val rfl rfl (x_pick (h.dep 2 rfl)) (h.dep 4 rfl),
      fun s v h => does_val rfl rfl (x_assign) (h.dep 5 rfl), trivial⟩
  intro g1987 ts v1987 hts E1987
  simp only [fillL, Nat.reduceAdd, List.setIfInBounds_toArray, List.set_cons_zero, List.set_cons_succ] at hts
  subst hts
  have T1988 : Below w.heap.size w v1987 := T1969.trans E1987.below
  have l1989 : q1973 < v1968.heap.size := b1977.lt
  have l1990 : q1979 < v1968.heap.size := b1983.lt
  have b1991 : Bx v1987 q1973 24 #[.bool na0, .slice A0 n0 c0] := (E1987.far q1973 b1977.lt (by simp)).trans b1977
  have b1992 : Bx v1987 q1979 24 #[.bool false, .slice none 0 0] := (E1987.far q1979 b1983.lt (by simp)).trans b1983
  have f1993 := f1970.mono E1987.mono
  have f1994 := f1971.mono E1987.mono
  have f1995 := f1984.mono E1987.mono
  have e1996 : g1987 0 = (.int .i64 (e : Int)) := E1987.facts 0 (by decide)
  have e1997 : g1987 1 = (.bool false) := E1987.facts 1 (by decide)
  have e1998 : g1987 2 = (.bool false) := E1987.facts 2 (by decide)
  have e1999 : g1987 3 = (.int .i64 (e : Int)) := E1987.facts 3 (by decide)
  have e2000 : g1987 4 = (.bool false) := E1987.facts 4 (by decide)
  have e2001 : g1987 5 = (.bool false) := E1987.facts 5 (by decide)
  have e2002 : g1987 6 = (.bool false) := E1987.facts 6 (by decide)
  refine then_normal ?_
  refine wp_cond_false e2002 ?_
  refine wp_seq ?_
  have HB : w.heap.size ≤ v1987.heap.size := T1988.size
  refine wp_plan_seq [.val (.is (.int .i64 (e : Int))), .val (.is (.bool true)), .val (.is (.bool true))] [] [] w.heap.size (by kernel_rfl) (by kernel_rfl) trivial HB ?_ ?_
  · exact ⟨fun s v h => does_val rfl rfl (x_move) (h.same 1 rfl),
      fun s v h => does_val rfl rfl (x_geq (h.dep 0 rfl) rfl) (congrArg Value.bool d3),
      fun s v h => does_val rfl rfl (x_assign) (h.dep 1 rfl), trivial⟩
  intro g2003 ts v2003 hts E2003
  simp only [fillL, Nat.reduceAdd, List.setIfInBounds_toArray, List.set_cons_zero, List.set_cons_succ] at hts
  subst hts
  have T2004 : Below w.heap.size w v2003 := T1988.trans E2003.below
  have l2005 : q1973 < v1987.heap.size := b1991.lt
  have l2006 : q1979 < v1987.heap.size := b1992.lt
  have b2007 : Bx v2003 q1973 24 #[.bool na0, .slice A0 n0 c0] := (E2003.far q1973 b1991.lt (by simp)).trans b1991
  have b2008 : Bx v2003 q1979 24 #[.bool false, .slice none 0 0] := (E2003.far q1979 b1992.lt (by simp)).trans b1992
  have f2009 := f1993.mono E2003.mono
  have f2010 := f1994.mono E2003.mono
  have f2011 := f1995.mono E2003.mono
  have e2012 : g2003 0 = (.int .i64 (e : Int)) := E2003.facts 0 (by decide)
  have e2013 : g2003 1 = (.bool true) := E2003.facts 1 (by decide)
  have e2014 : g2003 2 = (.bool true) := E2003.facts 2 (by decide)
  refine then_normal ?_
  refine wp_cond_true e2014 ?_
  refine wp_seq ?_
  have HB : w.heap.size ≤ v2003.heap.size := T2004.size
  refine wp_plan_any [.val (.az N0 z), .val (.is (.int .i64 (e : Int))), .val (.cz ((2 ^ e : Nat) : Int)), .val (.cz (z * ((2 ^ e : Nat) : Int))), .put 4 22, .val (.is (.int .i64 0))] [4] [q1979] w.heap.size (by kernel_rfl) (by kernel_rfl) (by kernel_rfl) ⟨p1980, b2008.lt, (by simp), trivial⟩ HB ?_ ?_
  · exact ⟨fun s v h => does_val rfl rfl (x_load_z ((h.same 2 rfl).trans p1974) ((h.far q1973 b2007.lt (nin1 n1986)).trans b2007)) (f2009.mono ((Mono.drew _).trans h.mono)),
      fun s v h => does_val rfl rfl (x_move) (h.same 1 rfl),
      fun s v h => does_call rfl rfl (x_call1 Try.call66) (r2two_k (h.dep 1 rfl) (by omega) (by omega)),
      fun s v h => does_call rfl rfl (x_call2 Try.call71) (r2mul_k (h.dep 0 rfl) ((h.dep 2 rfl).az (N := (e / 32 + 1)) (two_len e)) (by omega)),
      fun s v h => does_put_z rfl rfl ((h.same 4 rfl).trans p1980) (h.dep 3 rfl).shape (((Mono.drew _).trans h.mono).ok _ _ b2008.ok2) h1985,
      fun s v h => does_val rfl rfl (x_assign) rfl, trivial⟩
  intro g2015 ts v2015 hts E2015
  simp only [fillL, Nat.reduceAdd, List.setIfInBounds_toArray, List.set_cons_zero, List.set_cons_succ] at hts
  subst hts
  have T2016 : Below w.heap.size w v2015 := (below_toDrew T2004).trans E2015.below
  have l2017 : q1973 < v2003.heap.size := b2007.lt
  have l2018 : q1979 < v2003.heap.size := b2008.lt
  have b2019 : Bx v2015 q1973 24 #[.bool na0, .slice A0 n0 c0] := (E2015.far q1973 b2007.lt (nin1 n1986)).trans b2007
  have f2020 := f2009.mono ((Mono.drew _).trans E2015.mono)
  have f2021 := f2010.mono ((Mono.drew _).trans E2015.mono)
  have f2022 := f2011.mono ((Mono.drew _).trans E2015.mono)
  have f2023 : Az N0 v2015 (g2015 0) z := E2015.facts 0 (by decide)
  have e2024 : g2015 1 = (.int .i64 (e : Int)) := E2015.facts 1 (by decide)
  have f2025 : Cz v2015 (g2015 2) ((2 ^ e : Nat) : Int) := E2015.facts 2 (by decide)
  have f2026 : Cz v2015 (g2015 3) (z * ((2 ^ e : Nat) : Int)) := E2015.facts 3 (by decide)
  have e2027 : g2015 5 = (.int .i64 0) := E2015.facts 5 (by decide)
  obtain ⟨t2028, x2030, A2031, m2032, c2033, e2034, b2029⟩ := put_info (E2015.facts 4 (by decide)) p1980 f2026.shape
  have f2035 : Cz v2015 (.agg #[.bool x2030, .slice A2031 m2032 c2033]) (z * ((2 ^ e : Nat) : Int)) := f2026.at e2034.symm
  refine then_normal ?_
  refine wp_ret ?_
  exact bodyPost_ret (ret_ct rfl p1980 b2029) rfl ⟨_, rfl, ⟨_, _, rfl, f2035, e2027⟩, T2016⟩

set_option maxHeartbeats 4000000 in
set_option maxRecDepth 8000 in
theorem rshift_d {w : World} {x : Value} {z : Int} {N0 : Nat} (h0 : Az N0 w x z) (hN0 : N0 ≤ 1000000000) {e : Nat} (he : e ≤ 65536) (d1 : decide (65536 < -(e : Int)) = false) (d2 : decide (-(e : Int) < -65536) = false) (d3 : decide (0 ≤ -(e : Int)) = false)  : Calls Try.prog 38 #[x, .int .i64 (-(e : Int))] w (Ret (.tup2 (.cz (fl z ((2 ^ e : Nat) : Int))) (.is (.int .i64 0))) w) := by
  have _u := hN0
  have la0 := h0.len
  obtain ⟨na0, A0, n0, c0, M0, rfl, hm0, hz0⟩ := h0.parts
  have T0 : Below w.heap.size w w := Below.refl _ _
  go_enter Try.func38, Try.ntmps38
  refine wp_seq ?_
  have HB : w.heap.size ≤ w.heap.size := T0.size
  refine wp_plan_seq [.new 2 (some (24, #[.bool na0, .slice A0 n0 c0])), .new 2 (some (24, #[.bool false, .slice none 0 0])), .val (.is (.int .i64 0))] [] [] w.heap.size (by kernel_rfl) (by kernel_rfl) trivial HB ?_ ?_
  · exact ⟨fun s v h => does_new rfl rfl (x_box_z (h.same 0 rfl)) (okz _ _ _ _) rfl (.inr rfl),
      fun s v h => does_new rfl rfl x_alloc_z (okz _ _ _ _) rfl (.inr rfl),
      fun s v h => does_val rfl rfl (x_assign) rfl, trivial⟩
  intro g2036 ts v2036 hts E2036
  simp only [fillL, Nat.reduceAdd, List.setIfInBounds_toArray, List.set_cons_zero, List.set_cons_succ] at hts
  subst hts
  have T2037 : Below w.heap.size w v2036 := T0.trans E2036.below
  have f2038 := h0.mono E2036.mono
  have f2039 := hm0.mono E2036.mono
  have e2040 : g2036 2 = (.int .i64 0) := E2036.facts 2 (by decide)
  obtain ⟨q2041, p2042, l2043, o2044, b2045⟩ : ∃ q, g2036 0 = .pointer (some ⟨q, 0, none⟩) ∧ w.heap.size ≤ q ∧ OkB v2036 q 2 ∧ Bx v2036 q 24 #[.bool na0, .slice A0 n0 c0] := E2036.facts 0 (by decide)
  have h2046 : w.heap.size ≤ q2041 := Nat.le_trans HB l2043
  obtain ⟨q2047, p2048, l2049, o2050, b2051⟩ : ∃ q, g2036 1 = .pointer (some ⟨q, 0, none⟩) ∧ w.heap.size ≤ q ∧ OkB v2036 q 2 ∧ Bx v2036 q 24 #[.bool false, .slice none 0 0] := E2036.facts 1 (by decide)
  have f2052 : Cz v2036 (.agg #[.bool false, .slice none 0 0]) 0 := cz_zero _
  have h2053 : w.heap.size ≤ q2047 := Nat.le_trans HB l2049
  have n2054 : q2041 ≠ q2047 := apart_ne (E2036.apart 0 1 (by decide) (by decide) (by decide) ⟨_, _, rfl⟩ ⟨_, _, rfl⟩) p2042 p2048
  refine then_normal ?_
  refine wp_seq ?_
  refine wp_block ?_
  refine wp_seq ?_
  have HB : w.heap.size ≤ v2036.heap.size := T2037.size
  refine wp_plan_seq [.val (.is (.int .i64 (-(e : Int)))), .val (.is (.bool false)), .val (.is (.bool false)), .val (.is (.int .i64 (-(e : Int)))), .val (.is (.bool false)), .val (.is (.bool false)), .val (.is (.bool false))] [] [] w.heap.size (by kernel_rfl) (by kernel_rfl) trivial HB ?_ ?_
  · exact ⟨fun s v h => does_val rfl rfl (x_move) (h.same 1 rfl),
      fun s v h => does_val rfl rfl (x_gtr (h.dep 0 rfl) rfl) (congrArg Value.bool d1),
      fun s v h => does_val rfl rfl (x_move) (h.dep 1 rfl),
      fun s v h => does_val rfl (wanted_by (b := false) (want := false) rfl rfl (h.dep 2 rfl)) (x_move) (h.same 1 rfl),
      fun s v h => does_val rfl (wanted_by (b := false) (want := false) rfl rfl (h.dep 2 rfl)) (x_lss (h.dep 3 rfl) rfl) (congrArg Value.bool d2),
      fun s v h => does_val rfl rfl (x_pick (h.dep 2 rfl)) (h.dep 4 rfl),
      fun s v h => does_val rfl rfl (x_assign) (h.dep 5 rfl), trivial⟩
  intro g2055 ts v2055 hts E2055
  simp only [fillL, Nat.reduceAdd, List.setIfInBounds_toArray, List.set_cons_zero, List.set_cons_succ] at hts
  subst hts
  have T2056 : Below w.heap.size w v2055 := T2037.trans E2055.below
  have l2057 : q2041 < v2036.heap.size := b2045.lt
  have l2058 : q2047 < v2036.heap.size := b2051.lt
  have b2059 : Bx v2055 q2041 24 #[.bool na0, .slice A0 n0 c0] := (E2055.far q2041 b2045.lt (by simp)).trans b2045
  have b2060 : Bx v2055 q2047 24 #[.bool false, .slice none 0 0] := (E2055.far q2047 b2051.lt (by simp)).trans b2051
  have f2061 := f2038.mono E2055.mono
  have f2062 := f2039.mono E2055.mono
  have f2063 := f2052.mono E2055.mono
  have e2064 : g2055 0 = (.int .i64 (-(e : Int))) := E2055.facts 0 (by decide)
  have e2065 : g2055 1 = (.bool false) := E2055.facts 1 (by decide)
  have e2066 : g2055 2 = (.bool false) := E2055.facts 2 (by decide)
  have e2067 : g2055 3 = (.int .i64 (-(e : Int))) := E2055.facts 3 (by decide)
  have e2068 : g2055 4 = (.bool false) := E2055.facts 4 (by decide)
  have e2069 : g2055 5 = (.bool false) := E2055.facts 5 (by decide)
  have e2070 : g2055 6 = (.bool false) := E2055.facts 6 (by decide)
  refine then_normal ?_
  refine wp_cond_false e2070 ?_
  refine wp_seq ?_
  have HB : w.heap.size ≤ v2055.heap.size := T2056.size
  refine wp_plan_seq [.val (.is (.int .i64 (-(e : Int)))), .val (.is (.bool false)), .val (.is (.bool false))] [] [] w.heap.size (by kernel_rfl) (by kernel_rfl) trivial HB ?_ ?_
  · exact ⟨fun s v h => does_val rfl rfl (x_move) (h.same 1 rfl),
      fun s v h => does_val rfl rfl (x_geq (h.dep 0 rfl) rfl) (congrArg Value.bool d3),
      fun s v h => does_val rfl rfl (x_assign) (h.dep 1 rfl), trivial⟩
  intro g2071 ts v2071 hts E2071
  simp only [fillL, Nat.reduceAdd, List.setIfInBounds_toArray, List.set_cons_zero, List.set_cons_succ] at hts
  subst hts
  have T2072 : Below w.heap.size w v2071 := T2056.trans E2071.below
  have l2073 : q2041 < v2055.heap.size := b2059.lt
  have l2074 : q2047 < v2055.heap.size := b2060.lt
  have b2075 : Bx v2071 q2041 24 #[.bool na0, .slice A0 n0 c0] := (E2071.far q2041 b2059.lt (by simp)).trans b2059
  have b2076 : Bx v2071 q2047 24 #[.bool false, .slice none 0 0] := (E2071.far q2047 b2060.lt (by simp)).trans b2060
  have f2077 := f2061.mono E2071.mono
  have f2078 := f2062.mono E2071.mono
  have f2079 := f2063.mono E2071.mono
  have e2080 : g2071 0 = (.int .i64 (-(e : Int))) := E2071.facts 0 (by decide)
  have e2081 : g2071 1 = (.bool false) := E2071.facts 1 (by decide)
  have e2082 : g2071 2 = (.bool false) := E2071.facts 2 (by decide)
  refine then_normal ?_
  refine wp_cond_false e2082 ?_
  refine wp_skip ?_
  refine block_normal ?_
  refine then_normal ?_
  refine wp_seq ?_
  have HB : w.heap.size ≤ v2071.heap.size := T2072.size
  refine wp_plan_any [.val (.az N0 z), .val (.is (.int .i64 (-(e : Int)))), .val (.is (.int .i64 (e : Int))), .val (.cz ((2 ^ e : Nat) : Int)), .val (.tup2 (.cz (fl z ((2 ^ e : Nat) : Int))) (.cz (md z ((2 ^ e : Nat) : Int)))), .val (.tup2 (.cz (fl z ((2 ^ e : Nat) : Int))) (.cz (md z ((2 ^ e : Nat) : Int)))), .val (.cz (fl z ((2 ^ e : Nat) : Int))), .val (.cz (md z ((2 ^ e : Nat) : Int))), .new 2 none, .new 2 none, .put 6 29, .put 7 30] [] [] w.heap.size (by kernel_rfl) (by kernel_rfl) (by kernel_rfl) trivial HB ?_ ?_
  · exact ⟨fun s v h => does_val rfl rfl (x_load_z ((h.same 2 rfl).trans p2042) ((h.far q2041 b2075.lt (by simp)).trans b2075)) (f2077.mono ((Mono.drew _).trans h.mono)),
      fun s v h => does_val rfl rfl (x_move) (h.same 1 rfl),
      fun s v h => does_val rfl rfl (x_neg (h.dep 1 rfl) (by rw [IntKind.wrap_i64]; omega)) (congrArg (Value.int .i64) (Int.neg_neg _)),
      fun s v h => does_call rfl rfl (x_call1 Try.call66) (r2two_k (h.dep 2 rfl) (by omega) (by omega)),
      fun s v h => does_call rfl rfl (x_call2 Try.call29) (r2floor_k (h.dep 0 rfl) ((h.dep 3 rfl).az (N := (e / 32 + 1)) (two_len e)) (by omega) (by omega) (by have := pow_pos2 e; omega)),
      fun s v h => does_val rfl rfl (x_move) (h.dep 4 rfl),
      fun s v h => by obtain ⟨r0, r1, e, f0, f1⟩ := tup2_at (h.dep 5 rfl); exact does_val rfl rfl (x_ext e rfl) f0,
      fun s v h => by obtain ⟨r0, r1, e, f0, f1⟩ := tup2_at (h.dep 5 rfl); exact does_val rfl rfl (x_ext e rfl) f1,
      fun s v h => does_new rfl rfl x_alloc_z (okz _ _ _ _) rfl (.inl rfl),
      fun s v h => does_new rfl rfl x_alloc_z (okz _ _ _ _) rfl (.inl rfl),
      fun s v h => by obtain ⟨q, e1, e2, e3⟩ := new_at (h.dep 8 rfl); exact does_put_z rfl rfl e1 (h.dep 6 rfl).shape e3 (Nat.le_trans HB e2),
      fun s v h => by obtain ⟨q, e1, e2, e3⟩ := new_at (h.dep 9 rfl); exact does_put_z rfl rfl e1 (h.dep 7 rfl).shape e3 (Nat.le_trans HB e2), trivial⟩
  intro g2083 ts v2083 hts E2083
  simp only [fillL, Nat.reduceAdd, List.setIfInBounds_toArray, List.set_cons_zero, List.set_cons_succ] at hts
  subst hts
  have T2084 : Below w.heap.size w v2083 := (below_toDrew T2072).trans E2083.below
  have l2085 : q2041 < v2071.heap.size := b2075.lt
  have l2086 : q2047 < v2071.heap.size := b2076.lt
  have b2087 : Bx v2083 q2041 24 #[.bool na0, .slice A0 n0 c0] := (E2083.far q2041 b2075.lt (by simp)).trans b2075
  have b2088 : Bx v2083 q2047 24 #[.bool false, .slice none 0 0] := (E2083.far q2047 b2076.lt (by simp)).trans b2076
  have f2089 := f2077.mono ((Mono.drew _).trans E2083.mono)
  have f2090 := f2078.mono ((Mono.drew _).trans E2083.mono)
  have f2091 := f2079.mono ((Mono.drew _).trans E2083.mono)
  have f2092 : Az N0 v2083 (g2083 0) z := E2083.facts 0 (by decide)
  have e2093 : g2083 1 = (.int .i64 (-(e : Int))) := E2083.facts 1 (by decide)
  have e2094 : g2083 2 = (.int .i64 (e : Int)) := E2083.facts 2 (by decide)
  have f2095 : Cz v2083 (g2083 3) ((2 ^ e : Nat) : Int) := E2083.facts 3 (by decide)
  have f2096 : Cz v2083 (g2083 6) (fl z ((2 ^ e : Nat) : Int)) := E2083.facts 6 (by decide)
  have f2097 : Cz v2083 (g2083 7) (md z ((2 ^ e : Nat) : Int)) := E2083.facts 7 (by decide)
  obtain ⟨q2098, p2099, l2100, o2101⟩ : ∃ q, g2083 8 = .pointer (some ⟨q, 0, none⟩) ∧ v2071.heap.size ≤ q ∧ OkB v2083 q 2 := E2083.facts 8 (by decide)
  have h2102 : w.heap.size ≤ q2098 := Nat.le_trans HB l2100
  have n2103 : q2041 ≠ q2098 := by omega
  have n2104 : q2047 ≠ q2098 := by omega
  obtain ⟨q2105, p2106, l2107, o2108⟩ : ∃ q, g2083 9 = .pointer (some ⟨q, 0, none⟩) ∧ v2071.heap.size ≤ q ∧ OkB v2083 q 2 := E2083.facts 9 (by decide)
  have h2109 : w.heap.size ≤ q2105 := Nat.le_trans HB l2107
  have n2110 : q2041 ≠ q2105 := by omega
  have n2111 : q2047 ≠ q2105 := by omega
  have n2112 : q2098 ≠ q2105 := apart_ne (E2083.apart 8 9 (by decide) (by decide) (by decide) ⟨_, _, rfl⟩ ⟨_, _, rfl⟩) p2099 p2106
  obtain ⟨t2113, x2115, A2116, m2117, c2118, e2119, b2114⟩ := put_info (E2083.facts 10 (by decide)) p2099 f2096.shape
  have f2120 : Cz v2083 (.agg #[.bool x2115, .slice A2116 m2117 c2118]) (fl z ((2 ^ e : Nat) : Int)) := f2096.at e2119.symm
  obtain ⟨t2121, x2123, A2124, m2125, c2126, e2127, b2122⟩ := put_info (E2083.facts 11 (by decide)) p2106 f2097.shape
  have f2128 : Cz v2083 (.agg #[.bool x2123, .slice A2124 m2125 c2126]) (md z ((2 ^ e : Nat) : Int)) := f2097.at e2127.symm
  refine then_normal ?_
  refine wp_seq ?_
  have HB : w.heap.size ≤ v2083.heap.size := T2084.size
  refine wp_plan_seq [.val (.cz (fl z ((2 ^ e : Nat) : Int))), .put 4 31, .val (.is (.int .i64 0))] [4] [q2047] w.heap.size (by kernel_rfl) (by kernel_rfl) ⟨p2048, b2088.lt, (by simp), trivial⟩ HB ?_ ?_
  · exact ⟨fun s v h => does_val rfl rfl (x_load_z ((h.same 6 rfl).trans p2099) ((h.far q2098 b2114.lt (nin1 n2104.symm)).trans b2114)) (f2120.mono h.mono),
      fun s v h => does_put_z rfl rfl ((h.same 4 rfl).trans p2048) (h.dep 0 rfl).shape (h.mono.ok _ _ b2088.ok2) h2053,
      fun s v h => does_val rfl rfl (x_assign) rfl, trivial⟩
  intro g2129 ts v2129 hts E2129
  simp only [fillL, Nat.reduceAdd, List.setIfInBounds_toArray, List.set_cons_zero, List.set_cons_succ] at hts
  subst hts
  have T2130 : Below w.heap.size w v2129 := T2084.trans E2129.below
  have l2131 : q2041 < v2083.heap.size := b2087.lt
  have l2132 : q2047 < v2083.heap.size := b2088.lt
  have l2133 : q2098 < v2083.heap.size := b2114.lt
  have l2134 : q2105 < v2083.heap.size := b2122.lt
  have b2135 : Bx v2129 q2041 24 #[.bool na0, .slice A0 n0 c0] := (E2129.far q2041 b2087.lt (nin1 n2054)).trans b2087
  have b2136 : Bx v2129 q2098 t2113 #[.bool x2115, .slice A2116 m2117 c2118] := (E2129.far q2098 b2114.lt (nin1 n2104.symm)).trans b2114
  have b2137 : Bx v2129 q2105 t2121 #[.bool x2123, .slice A2124 m2125 c2126] := (E2129.far q2105 b2122.lt (nin1 n2111.symm)).trans b2122
  have f2138 := f2089.mono E2129.mono
  have f2139 := f2090.mono E2129.mono
  have f2140 := f2091.mono E2129.mono
  have f2141 := f2092.mono E2129.mono
  have f2142 := f2095.mono E2129.mono
  have f2143 := f2096.mono E2129.mono
  have f2144 := f2097.mono E2129.mono
  have f2145 := f2120.mono E2129.mono
  have f2146 := f2128.mono E2129.mono
  have f2147 : Cz v2129 (g2129 0) (fl z ((2 ^ e : Nat) : Int)) := E2129.facts 0 (by decide)
  have e2148 : g2129 2 = (.int .i64 0) := E2129.facts 2 (by decide)
  obtain ⟨t2149, x2151, A2152, m2153, c2154, e2155, b2150⟩ := put_info (E2129.facts 1 (by decide)) p2048 f2147.shape
  have f2156 : Cz v2129 (.agg #[.bool x2151, .slice A2152 m2153 c2154]) (fl z ((2 ^ e : Nat) : Int)) := f2147.at e2155.symm
  refine then_normal ?_
  refine wp_ret ?_
  exact bodyPost_ret (ret_ct rfl p2048 b2150) rfl ⟨_, rfl, ⟨_, _, rfl, f2156, e2148⟩, T2130⟩

end Go.Proofs.Ytkidgeeedigkhaa
