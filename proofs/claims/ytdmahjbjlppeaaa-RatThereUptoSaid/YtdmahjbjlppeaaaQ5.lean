
/- rat.Text; the law's small words. -/
import Derived.Test.YtdmahjbjlppeaaaQ4
import Derived.Test.YtdmahjbjlppeaaaNumK
import Derived.Test.YtdmahjbjlppeaaaZText
namespace Go.Proofs.Ytdmahjbjlppeaaa
open Go.RowKit

theorem zt_size {z : Int} {N : Nat} (h : (digs z.natAbs).length ≤ N) (hN : N ≤ 10000000) : (ztxt z).size ≤ 400000000 := by
  have h1 : blen z.natAbs ≤ 32 * N := blen_le_iff.2 (by rw [← pow_B]; exact digs_len_lt_iff.1 h)
  have := ztxt_small (z := z) h1
  omega
/-- The text of a rational. -/
def qtxt (p q : Int) : ByteArray := if rd p q = 1 then ztxt (rn p q) else ztxt (rn p q) ++ (⟨#[47]⟩ : ByteArray) ++ ztxt (rd p q)

set_option maxHeartbeats 4000000 in
set_option maxRecDepth 8000 in
theorem qtext_a {w : World} {x : Value} {p q : Int} {N0 : Nat} (h0 : Rz N0 w x p q) (hN0 : N0 ≤ 10000000) (hq : q ≠ 0) (dv : decide (q.sign ≤ 0) = false) (dc : ((rd p q - 1).sign == 0) = true)  : Calls Try.prog 39 #[x] w (Ret (.tup2 (.is (.string (ztxt (rn p q)))) (.is (.int .i64 0))) w) := by
  obtain ⟨na0, A0, n0, c0, nb0, B0, m0, d0, e0r, hx0, hy0⟩ := Rz.parts h0
  subst e0r
  have la0 := hx0.len
  have lb0 := hy0.len
  have T0 : Below w.heap.size w w := Below.refl _ _
  go_enter Try.func39, Try.ntmps39
  refine wp_seq ?_
  have HB : w.heap.size ≤ w.heap.size := T0.size
  refine wp_plan_seq [.new 4 (some (29, #[.bool na0, .slice A0 n0 c0, .bool nb0, .slice B0 m0 d0])), .val (.is (.string (⟨#[]⟩ : ByteArray))), .val (.is (.int .i64 0))] [] [] w.heap.size (by kernel_rfl) (by kernel_rfl) trivial HB ?_ ?_
  · exact ⟨fun s v h => does_new rfl rfl (x_box_r (h.same 0 rfl)) (okr _ _ _ _ _ _ _ _) rfl (.inr rfl),
      fun s v h => does_val rfl rfl (x_assign) rfl,
      fun s v h => does_val rfl rfl (x_assign) rfl, trivial⟩
  intro g1 ts v1 hts E1
  simp only [fillL, Nat.reduceAdd, List.setIfInBounds_toArray, List.set_cons_zero, List.set_cons_succ] at hts
  subst hts
  have T2 : Below w.heap.size w v1 := T0.trans E1.below
  have f3 := (pair_mono h0 E1.mono)
  obtain ⟨q6, p7, l8, o9, b10⟩ : ∃ q, g1 0 = .pointer (some ⟨q, 0, none⟩) ∧ w.heap.size ≤ q ∧ OkB v1 q 4 ∧ Bx v1 q 29 #[.bool na0, .slice A0 n0 c0, .bool nb0, .slice B0 m0 d0] := E1.facts 0 (by decide)
  have h11 : w.heap.size ≤ q6 := Nat.le_trans HB l8
  refine then_normal ?_
  refine wp_seq ?_
  refine wp_seq ?_
  have HB : w.heap.size ≤ v1.heap.size := T2.size
  refine wp_plan_seq [.val (.is (.agg #[.bool na0, .slice A0 n0 c0, .bool nb0, .slice B0 m0 d0])), .new 4 (some (29, #[.bool na0, .slice A0 n0 c0, .bool nb0, .slice B0 m0 d0])) (some 1), .val (.is (.int .i64 0)), .val (.is (.int .i64 0))] [] [] w.heap.size (by kernel_rfl) (by kernel_rfl) trivial HB ?_ ?_
  · exact ⟨fun s v h => does_val rfl rfl (x_load_r ((h.same 1 rfl).trans p7) ((h.far q6 b10.lt (by simp)).trans b10)) rfl,
      fun s v h => does_row rfl rfl (x_row1 (h.dep 0 rfl)) (okr _ _ _ _ _ _ _ _) rfl,
      fun s v h => does_call rfl rfl (x_call1 Try.call41) (valid1_k (h.dep 1 rfl) (pair_mono f3 h.mono) dv),
      fun s v h => does_val rfl rfl (x_assign) (h.dep 2 rfl), trivial⟩
  intro g12 ts v12 hts E12
  simp only [fillL, Nat.reduceAdd, List.setIfInBounds_toArray, List.set_cons_zero, List.set_cons_succ] at hts
  subst hts
  have T13 : Below w.heap.size w v12 := T2.trans E12.below
  have l14 : q6 < v1.heap.size := b10.lt
  have b15 : Bx v12 q6 29 #[.bool na0, .slice A0 n0 c0, .bool nb0, .slice B0 m0 d0] := (E12.far q6 b10.lt (by simp)).trans b10
  have f16 := (pair_mono f3 E12.mono)
  have e19 : g12 3 = (.int .i64 0) := E12.facts 3 (by decide)
  refine then_normal ?_
  refine wp_seq ?_
  have HB : w.heap.size ≤ v12.heap.size := T13.size
  refine wp_plan_seq [.val (.is (.int .i64 0)), .val (.is (.bool false))] [] [] w.heap.size (by kernel_rfl) (by kernel_rfl) trivial HB ?_ ?_
  · exact ⟨fun s v h => does_val rfl rfl (x_move) ((h.same 4 rfl).trans e19),
      fun s v h => does_val rfl rfl (x_neq_err (h.dep 0 rfl) rfl) rfl, trivial⟩
  intro g20 ts v20 hts E20
  simp only [fillL, Nat.reduceAdd, List.setIfInBounds_toArray, List.set_cons_zero, List.set_cons_succ] at hts
  subst hts
  have T21 : Below w.heap.size w v20 := T13.trans E20.below
  have l22 : q6 < v12.heap.size := b15.lt
  have b23 : Bx v20 q6 29 #[.bool na0, .slice A0 n0 c0, .bool nb0, .slice B0 m0 d0] := (E20.far q6 b15.lt (by simp)).trans b15
  have f24 := (pair_mono f16 E20.mono)
  have e26 : g20 1 = (.bool false) := E20.facts 1 (by decide)
  refine then_normal ?_
  refine wp_cond_false e26 ?_
  refine wp_skip ?_
  refine then_normal ?_
  refine wp_seq ?_
  have HB : w.heap.size ≤ v20.heap.size := T21.size
  refine wp_plan_seq [.val (.is (.pointer (some ⟨q6, 0, none⟩))), .val (.az N0 p), .val (.is (.pointer (some ⟨q6, 2, none⟩))), .val (.az N0 q), .val (.pair (.cz (rn p q)) (.cz (rd p q))), .new 4 none, .put 5 16] [] [] w.heap.size (by kernel_rfl) (by kernel_rfl) trivial HB ?_ ?_
  · exact ⟨fun s v h => does_val rfl rfl (x_fld_r0 ((h.same 1 rfl).trans p7)) rfl,
      fun s v h => does_val rfl rfl (x_load_r0 (h.dep 0 rfl) ((h.far q6 b23.lt (by simp)).trans b23)) (pair_fst (pair_mono f24 h.mono)),
      fun s v h => does_val rfl rfl (x_fld_r1 ((h.same 1 rfl).trans p7)) rfl,
      fun s v h => does_val rfl rfl (x_load_r1 (h.dep 2 rfl) ((h.far q6 b23.lt (by simp)).trans b23)) (pair_snd (pair_mono f24 h.mono)),
      fun s v h => does_call rfl rfl (x_call2 Try.call44) (qmade_k (h.dep 1 rfl) (h.dep 3 rfl) (by omega) (by omega) hq),
      fun s v h => does_new rfl rfl x_alloc_r (okr _ _ _ _ _ _ _ _) rfl (.inl rfl),
      fun s v h => by obtain ⟨q, e1, e2, e3⟩ := new_at (h.dep 5 rfl); exact does_put_r rfl rfl e1 (pair_shape (num_cz _) (num_cz _) (h.dep 4 rfl)) e3 (Nat.le_trans HB e2), trivial⟩
  intro g27 ts v27 hts E27
  simp only [fillL, Nat.reduceAdd, List.setIfInBounds_toArray, List.set_cons_zero, List.set_cons_succ] at hts
  subst hts
  have T28 : Below w.heap.size w v27 := T21.trans E27.below
  have l29 : q6 < v20.heap.size := b23.lt
  have b30 : Bx v27 q6 29 #[.bool na0, .slice A0 n0 c0, .bool nb0, .slice B0 m0 d0] := (E27.far q6 b23.lt (by simp)).trans b23
  have f34 : ((.pair (.cz (rn p q)) (.cz (rd p q))) : Known).p v27 (g27 4) := E27.facts 4 (by decide)
  obtain ⟨q35, p36, l37, o38⟩ : ∃ q, g27 5 = .pointer (some ⟨q, 0, none⟩) ∧ v20.heap.size ≤ q ∧ OkB v27 q 4 := E27.facts 5 (by decide)
  have h39 : w.heap.size ≤ q35 := Nat.le_trans HB l37
  obtain ⟨t41, x43, A44, m45, c46, x47, A48, m49, c50, e51, b42⟩ := put_info4 (E27.facts 6 (by decide)) p36 (pair_shape (num_cz _) (num_cz _) f34)
  have f52 : ((.pair (.cz (rn p q)) (.cz (rd p q))) : Known).p v27 (.agg #[.bool x43, .slice A44 m45 c46, .bool x47, .slice A48 m49 c50]) := pair_at f34 e51.symm
  refine then_normal ?_
  refine wp_seq ?_
  refine wp_seq ?_
  have HB : w.heap.size ≤ v27.heap.size := T28.size
  refine wp_plan_any [.val (.is (.pointer (some ⟨q35, 2, none⟩))), .val (.cz (rd p q)), .val (.cz 1), .val (.is (.int .i64 ((rd p q) - 1).sign)), .val (.is (.bool true))] [] [] w.heap.size (by kernel_rfl) (by kernel_rfl) (by kernel_rfl) trivial HB ?_ ?_
  · exact ⟨fun s v h => does_val rfl rfl (x_fld_r1 ((h.same 5 rfl).trans p36)) rfl,
      fun s v h => does_val rfl rfl (x_load_r1 (h.dep 0 rfl) ((h.far q35 b42.lt (by simp)).trans b42)) (pair_snd (pair_mono f52 ((Mono.drew _).trans h.mono))),
      fun s v h => does_call rfl rfl (x_call1 Try.call52) (of_k rfl (by decide) (by decide)),
      fun s v h => does_call rfl rfl (x_call2 Try.call54) (zcmp_k ((h.dep 1 rfl).az (N := N0) (rd_len hq lb0)) ((h.dep 2 rfl).az (N := 1) (show (digs (Int.natAbs 1)).length ≤ 1 from digs_len_le (by decide)))),
      fun s v h => does_val rfl rfl (x_eql_int (h.dep 3 rfl) rfl) (congrArg Value.bool dc), trivial⟩
  intro g53 ts v53 hts E53
  simp only [fillL, Nat.reduceAdd, List.setIfInBounds_toArray, List.set_cons_zero, List.set_cons_succ] at hts
  subst hts
  have T54 : Below w.heap.size w v53 := (below_toDrew T28).trans E53.below
  have l55 : q6 < v27.heap.size := b30.lt
  have l56 : q35 < v27.heap.size := b42.lt
  have b57 : Bx v53 q6 29 #[.bool na0, .slice A0 n0 c0, .bool nb0, .slice B0 m0 d0] := (E53.far q6 b30.lt (by simp)).trans b30
  have b58 : Bx v53 q35 t41 #[.bool x43, .slice A44 m45 c46, .bool x47, .slice A48 m49 c50] := (E53.far q35 b42.lt (by simp)).trans b42
  have f63 := (pair_mono f52 ((Mono.drew _).trans E53.mono))
  have e67 : g53 4 = (.bool true) := E53.facts 4 (by decide)
  refine then_normal ?_
  refine wp_cond_true e67 ?_
  refine wp_seq ?_
  have HB : w.heap.size ≤ v53.heap.size := T54.size
  refine wp_plan_seq [.val (.is (.pointer (some ⟨q35, 0, none⟩))), .val (.cz (rn p q)), .val (.is (.string (ztxt (rn p q)))), .val (.is (.string (ztxt (rn p q)))), .val (.is (.int .i64 0))] [] [] w.heap.size (by kernel_rfl) (by kernel_rfl) trivial HB ?_ ?_
  · exact ⟨fun s v h => does_val rfl rfl (x_fld_r0 ((h.same 5 rfl).trans p36)) rfl,
      fun s v h => does_val rfl rfl (x_load_r0 (h.dep 0 rfl) ((h.far q35 b58.lt (by simp)).trans b58)) (pair_fst (pair_mono f63 h.mono)),
      fun s v h => does_call rfl rfl (x_call1 Try.call71) (ztext_k ((h.dep 1 rfl).az (N := N0) (rn_len hq la0)) (by omega)),
      fun s v h => does_val rfl rfl (x_assign) (h.dep 2 rfl),
      fun s v h => does_val rfl rfl (x_assign) rfl, trivial⟩
  intro g68 ts v68 hts E68
  simp only [fillL, Nat.reduceAdd, List.setIfInBounds_toArray, List.set_cons_zero, List.set_cons_succ] at hts
  subst hts
  have T69 : Below w.heap.size w v68 := T54.trans E68.below
  have l70 : q6 < v53.heap.size := b57.lt
  have l71 : q35 < v53.heap.size := b58.lt
  have e83 : g68 3 = (.string (ztxt (rn p q))) := E68.facts 3 (by decide)
  have e84 : g68 4 = (.int .i64 0) := E68.facts 4 (by decide)
  refine then_normal ?_
  refine wp_ret ?_
  exact bodyPost_ret (results_tmp2 (t := 2) (u := 3) rfl _ _ _) rfl ⟨_, rfl, ⟨_, _, rfl, e83, e84⟩, T69⟩

set_option maxHeartbeats 4000000 in
set_option maxRecDepth 8000 in
theorem qtext_c {w : World} {x : Value} {p q : Int} {N0 : Nat} (h0 : Rz N0 w x p q) (hN0 : N0 ≤ 10000000) (hq : q ≠ 0) (dv : decide (q.sign ≤ 0) = false) (dc : ((rd p q - 1).sign == 0) = false)  : Calls Try.prog 39 #[x] w (Ret (.tup2 (.is (.string (ztxt (rn p q) ++ (⟨#[47]⟩ : ByteArray) ++ ztxt (rd p q)))) (.is (.int .i64 0))) w) := by
  obtain ⟨na0, A0, n0, c0, nb0, B0, m0, d0, e0r, hx0, hy0⟩ := Rz.parts h0
  subst e0r
  have la0 := hx0.len
  have lb0 := hy0.len
  have hS1 := zt_size (rn_len (p := p) hq la0) hN0
  have hS2 := zt_size (rd_len (p := p) hq lb0) hN0
  have hO : (⟨#[47]⟩ : ByteArray).size = 1 := rfl
  have hL1 : (ztxt (rn p q)).size + (⟨#[47]⟩ : ByteArray).size ≤ 1000000000 := by omega
  have hL2 : (ztxt (rn p q) ++ (⟨#[47]⟩ : ByteArray)).size + (ztxt (rd p q)).size ≤ 1000000000 := by rw [ByteArray.size_append]; omega
  have T0 : Below w.heap.size w w := Below.refl _ _
  go_enter Try.func39, Try.ntmps39
  refine wp_seq ?_
  have HB : w.heap.size ≤ w.heap.size := T0.size
  refine wp_plan_seq [.new 4 (some (29, #[.bool na0, .slice A0 n0 c0, .bool nb0, .slice B0 m0 d0])), .val (.is (.string (⟨#[]⟩ : ByteArray))), .val (.is (.int .i64 0))] [] [] w.heap.size (by kernel_rfl) (by kernel_rfl) trivial HB ?_ ?_
  · exact ⟨fun s v h => does_new rfl rfl (x_box_r (h.same 0 rfl)) (okr _ _ _ _ _ _ _ _) rfl (.inr rfl),
      fun s v h => does_val rfl rfl (x_assign) rfl,
      fun s v h => does_val rfl rfl (x_assign) rfl, trivial⟩
  intro g85 ts v85 hts E85
  simp only [fillL, Nat.reduceAdd, List.setIfInBounds_toArray, List.set_cons_zero, List.set_cons_succ] at hts
  subst hts
  have T86 : Below w.heap.size w v85 := T0.trans E85.below
  have f87 := (pair_mono h0 E85.mono)
  obtain ⟨q90, p91, l92, o93, b94⟩ : ∃ q, g85 0 = .pointer (some ⟨q, 0, none⟩) ∧ w.heap.size ≤ q ∧ OkB v85 q 4 ∧ Bx v85 q 29 #[.bool na0, .slice A0 n0 c0, .bool nb0, .slice B0 m0 d0] := E85.facts 0 (by decide)
  have h95 : w.heap.size ≤ q90 := Nat.le_trans HB l92
  refine then_normal ?_
  refine wp_seq ?_
  refine wp_seq ?_
  have HB : w.heap.size ≤ v85.heap.size := T86.size
  refine wp_plan_seq [.val (.is (.agg #[.bool na0, .slice A0 n0 c0, .bool nb0, .slice B0 m0 d0])), .new 4 (some (29, #[.bool na0, .slice A0 n0 c0, .bool nb0, .slice B0 m0 d0])) (some 1), .val (.is (.int .i64 0)), .val (.is (.int .i64 0))] [] [] w.heap.size (by kernel_rfl) (by kernel_rfl) trivial HB ?_ ?_
  · exact ⟨fun s v h => does_val rfl rfl (x_load_r ((h.same 1 rfl).trans p91) ((h.far q90 b94.lt (by simp)).trans b94)) rfl,
      fun s v h => does_row rfl rfl (x_row1 (h.dep 0 rfl)) (okr _ _ _ _ _ _ _ _) rfl,
      fun s v h => does_call rfl rfl (x_call1 Try.call41) (valid1_k (h.dep 1 rfl) (pair_mono f87 h.mono) dv),
      fun s v h => does_val rfl rfl (x_assign) (h.dep 2 rfl), trivial⟩
  intro g96 ts v96 hts E96
  simp only [fillL, Nat.reduceAdd, List.setIfInBounds_toArray, List.set_cons_zero, List.set_cons_succ] at hts
  subst hts
  have T97 : Below w.heap.size w v96 := T86.trans E96.below
  have l98 : q90 < v85.heap.size := b94.lt
  have b99 : Bx v96 q90 29 #[.bool na0, .slice A0 n0 c0, .bool nb0, .slice B0 m0 d0] := (E96.far q90 b94.lt (by simp)).trans b94
  have f100 := (pair_mono f87 E96.mono)
  have e103 : g96 3 = (.int .i64 0) := E96.facts 3 (by decide)
  refine then_normal ?_
  refine wp_seq ?_
  have HB : w.heap.size ≤ v96.heap.size := T97.size
  refine wp_plan_seq [.val (.is (.int .i64 0)), .val (.is (.bool false))] [] [] w.heap.size (by kernel_rfl) (by kernel_rfl) trivial HB ?_ ?_
  · exact ⟨fun s v h => does_val rfl rfl (x_move) ((h.same 4 rfl).trans e103),
      fun s v h => does_val rfl rfl (x_neq_err (h.dep 0 rfl) rfl) rfl, trivial⟩
  intro g104 ts v104 hts E104
  simp only [fillL, Nat.reduceAdd, List.setIfInBounds_toArray, List.set_cons_zero, List.set_cons_succ] at hts
  subst hts
  have T105 : Below w.heap.size w v104 := T97.trans E104.below
  have l106 : q90 < v96.heap.size := b99.lt
  have b107 : Bx v104 q90 29 #[.bool na0, .slice A0 n0 c0, .bool nb0, .slice B0 m0 d0] := (E104.far q90 b99.lt (by simp)).trans b99
  have f108 := (pair_mono f100 E104.mono)
  have e110 : g104 1 = (.bool false) := E104.facts 1 (by decide)
  refine then_normal ?_
  refine wp_cond_false e110 ?_
  refine wp_skip ?_
  refine then_normal ?_
  refine wp_seq ?_
  have HB : w.heap.size ≤ v104.heap.size := T105.size
  refine wp_plan_seq [.val (.is (.pointer (some ⟨q90, 0, none⟩))), .val (.az N0 p), .val (.is (.pointer (some ⟨q90, 2, none⟩))), .val (.az N0 q), .val (.pair (.cz (rn p q)) (.cz (rd p q))), .new 4 none, .put 5 16] [] [] w.heap.size (by kernel_rfl) (by kernel_rfl) trivial HB ?_ ?_
  · exact ⟨fun s v h => does_val rfl rfl (x_fld_r0 ((h.same 1 rfl).trans p91)) rfl,
      fun s v h => does_val rfl rfl (x_load_r0 (h.dep 0 rfl) ((h.far q90 b107.lt (by simp)).trans b107)) (pair_fst (pair_mono f108 h.mono)),
      fun s v h => does_val rfl rfl (x_fld_r1 ((h.same 1 rfl).trans p91)) rfl,
      fun s v h => does_val rfl rfl (x_load_r1 (h.dep 2 rfl) ((h.far q90 b107.lt (by simp)).trans b107)) (pair_snd (pair_mono f108 h.mono)),
      fun s v h => does_call rfl rfl (x_call2 Try.call44) (qmade_k (h.dep 1 rfl) (h.dep 3 rfl) (by omega) (by omega) hq),
      fun s v h => does_new rfl rfl x_alloc_r (okr _ _ _ _ _ _ _ _) rfl (.inl rfl),
      fun s v h => by obtain ⟨q, e1, e2, e3⟩ := new_at (h.dep 5 rfl); exact does_put_r rfl rfl e1 (pair_shape (num_cz _) (num_cz _) (h.dep 4 rfl)) e3 (Nat.le_trans HB e2), trivial⟩
  intro g111 ts v111 hts E111
  simp only [fillL, Nat.reduceAdd, List.setIfInBounds_toArray, List.set_cons_zero, List.set_cons_succ] at hts
  subst hts
  have T112 : Below w.heap.size w v111 := T105.trans E111.below
  have l113 : q90 < v104.heap.size := b107.lt
  have b114 : Bx v111 q90 29 #[.bool na0, .slice A0 n0 c0, .bool nb0, .slice B0 m0 d0] := (E111.far q90 b107.lt (by simp)).trans b107
  have f118 : ((.pair (.cz (rn p q)) (.cz (rd p q))) : Known).p v111 (g111 4) := E111.facts 4 (by decide)
  obtain ⟨q119, p120, l121, o122⟩ : ∃ q, g111 5 = .pointer (some ⟨q, 0, none⟩) ∧ v104.heap.size ≤ q ∧ OkB v111 q 4 := E111.facts 5 (by decide)
  have h123 : w.heap.size ≤ q119 := Nat.le_trans HB l121
  obtain ⟨t125, x127, A128, m129, c130, x131, A132, m133, c134, e135, b126⟩ := put_info4 (E111.facts 6 (by decide)) p120 (pair_shape (num_cz _) (num_cz _) f118)
  have f136 : ((.pair (.cz (rn p q)) (.cz (rd p q))) : Known).p v111 (.agg #[.bool x127, .slice A128 m129 c130, .bool x131, .slice A132 m133 c134]) := pair_at f118 e135.symm
  refine then_normal ?_
  refine wp_seq ?_
  refine wp_seq ?_
  have HB : w.heap.size ≤ v111.heap.size := T112.size
  refine wp_plan_any [.val (.is (.pointer (some ⟨q119, 2, none⟩))), .val (.cz (rd p q)), .val (.cz 1), .val (.is (.int .i64 ((rd p q) - 1).sign)), .val (.is (.bool false))] [] [] w.heap.size (by kernel_rfl) (by kernel_rfl) (by kernel_rfl) trivial HB ?_ ?_
  · exact ⟨fun s v h => does_val rfl rfl (x_fld_r1 ((h.same 5 rfl).trans p120)) rfl,
      fun s v h => does_val rfl rfl (x_load_r1 (h.dep 0 rfl) ((h.far q119 b126.lt (by simp)).trans b126)) (pair_snd (pair_mono f136 ((Mono.drew _).trans h.mono))),
      fun s v h => does_call rfl rfl (x_call1 Try.call52) (of_k rfl (by decide) (by decide)),
      fun s v h => does_call rfl rfl (x_call2 Try.call54) (zcmp_k ((h.dep 1 rfl).az (N := N0) (rd_len hq lb0)) ((h.dep 2 rfl).az (N := 1) (show (digs (Int.natAbs 1)).length ≤ 1 from digs_len_le (by decide)))),
      fun s v h => does_val rfl rfl (x_eql_int (h.dep 3 rfl) rfl) (congrArg Value.bool dc), trivial⟩
  intro g137 ts v137 hts E137
  simp only [fillL, Nat.reduceAdd, List.setIfInBounds_toArray, List.set_cons_zero, List.set_cons_succ] at hts
  subst hts
  have T138 : Below w.heap.size w v137 := (below_toDrew T112).trans E137.below
  have l139 : q90 < v111.heap.size := b114.lt
  have l140 : q119 < v111.heap.size := b126.lt
  have b141 : Bx v137 q90 29 #[.bool na0, .slice A0 n0 c0, .bool nb0, .slice B0 m0 d0] := (E137.far q90 b114.lt (by simp)).trans b114
  have b142 : Bx v137 q119 t125 #[.bool x127, .slice A128 m129 c130, .bool x131, .slice A132 m133 c134] := (E137.far q119 b126.lt (by simp)).trans b126
  have f147 := (pair_mono f136 ((Mono.drew _).trans E137.mono))
  have e151 : g137 4 = (.bool false) := E137.facts 4 (by decide)
  refine then_normal ?_
  refine wp_cond_false e151 ?_
  refine wp_skip ?_
  refine then_normal ?_
  refine wp_seq ?_
  have HB : w.heap.size ≤ v137.heap.size := T138.size
  refine wp_plan_any [.val (.is (.pointer (some ⟨q119, 0, none⟩))), .val (.cz (rn p q)), .val (.is (.string (ztxt (rn p q)))), .val (.is (.string ((ztxt (rn p q)) ++ (⟨#[47]⟩ : ByteArray)))), .val (.is (.pointer (some ⟨q119, 2, none⟩))), .val (.cz (rd p q)), .val (.is (.string (ztxt (rd p q)))), .val (.is (.string (((ztxt (rn p q)) ++ (⟨#[47]⟩ : ByteArray)) ++ (ztxt (rd p q))))), .val (.is (.string (((ztxt (rn p q)) ++ (⟨#[47]⟩ : ByteArray)) ++ (ztxt (rd p q))))), .val (.is (.int .i64 0))] [] [] w.heap.size (by kernel_rfl) (by kernel_rfl) (by kernel_rfl) trivial HB ?_ ?_
  · exact ⟨fun s v h => does_val rfl rfl (x_fld_r0 ((h.same 5 rfl).trans p120)) rfl,
      fun s v h => does_val rfl rfl (x_load_r0 (h.dep 0 rfl) ((h.far q119 b142.lt (by simp)).trans b142)) (pair_fst (pair_mono f147 ((Mono.drew _).trans h.mono))),
      fun s v h => does_call rfl rfl (x_call1 Try.call71) (ztext_k ((h.dep 1 rfl).az (N := N0) (rn_len hq la0)) (by omega)),
      fun s v h => does_val rfl rfl (x_add_str (h.dep 2 rfl) rfl (by first | exact hL1 | exact hL2)) rfl,
      fun s v h => does_val rfl rfl (x_fld_r1 ((h.same 5 rfl).trans p120)) rfl,
      fun s v h => does_val rfl rfl (x_load_r1 (h.dep 4 rfl) ((h.far q119 b142.lt (by simp)).trans b142)) (pair_snd (pair_mono f147 ((Mono.drew _).trans h.mono))),
      fun s v h => does_call rfl rfl (x_call1 Try.call71) (ztext_k ((h.dep 5 rfl).az (N := N0) (rd_len hq lb0)) (by omega)),
      fun s v h => does_val rfl rfl (x_add_str (h.dep 3 rfl) (h.dep 6 rfl) (by first | exact hL1 | exact hL2)) rfl,
      fun s v h => does_val rfl rfl (x_assign) (h.dep 7 rfl),
      fun s v h => does_val rfl rfl (x_assign) rfl, trivial⟩
  intro g152 ts v152 hts E152
  simp only [fillL, Nat.reduceAdd, List.setIfInBounds_toArray, List.set_cons_zero, List.set_cons_succ] at hts
  subst hts
  have T153 : Below w.heap.size w v152 := (below_toDrew T138).trans E152.below
  have l154 : q90 < v137.heap.size := b141.lt
  have l155 : q119 < v137.heap.size := b142.lt
  have e171 : g152 8 = (.string (((ztxt (rn p q)) ++ (⟨#[47]⟩ : ByteArray)) ++ (ztxt (rd p q)))) := E152.facts 8 (by decide)
  have e172 : g152 9 = (.int .i64 0) := E152.facts 9 (by decide)
  refine then_normal ?_
  refine wp_ret ?_
  exact bodyPost_ret (results_tmp2 (t := 2) (u := 3) rfl _ _ _) rfl ⟨_, rfl, ⟨_, _, rfl, e171, e172⟩, T153⟩

set_option maxHeartbeats 4000000 in
set_option maxRecDepth 8000 in
theorem qtext_b {w : World} {x : Value} {p q : Int} {N0 : Nat} (h0 : Rz N0 w x p q) (dv : decide (q.sign ≤ 0) = true)  : Calls Try.prog 39 #[x] w (Ret (.tup2 (.is (.string ⟨#[]⟩)) (.is (.int .i64 30))) w) := by
  obtain ⟨na0, A0, n0, c0, nb0, B0, m0, d0, e0r, hx0, hy0⟩ := Rz.parts h0
  subst e0r
  have la0 := hx0.len
  have lb0 := hy0.len
  have T0 : Below w.heap.size w w := Below.refl _ _
  go_enter Try.func39, Try.ntmps39
  refine wp_seq ?_
  have HB : w.heap.size ≤ w.heap.size := T0.size
  refine wp_plan_seq [.new 4 (some (29, #[.bool na0, .slice A0 n0 c0, .bool nb0, .slice B0 m0 d0])), .val (.is (.string (⟨#[]⟩ : ByteArray))), .val (.is (.int .i64 0))] [] [] w.heap.size (by kernel_rfl) (by kernel_rfl) trivial HB ?_ ?_
  · exact ⟨fun s v h => does_new rfl rfl (x_box_r (h.same 0 rfl)) (okr _ _ _ _ _ _ _ _) rfl (.inr rfl),
      fun s v h => does_val rfl rfl (x_assign) rfl,
      fun s v h => does_val rfl rfl (x_assign) rfl, trivial⟩
  intro g173 ts v173 hts E173
  simp only [fillL, Nat.reduceAdd, List.setIfInBounds_toArray, List.set_cons_zero, List.set_cons_succ] at hts
  subst hts
  have T174 : Below w.heap.size w v173 := T0.trans E173.below
  have f175 := (pair_mono h0 E173.mono)
  obtain ⟨q178, p179, l180, o181, b182⟩ : ∃ q, g173 0 = .pointer (some ⟨q, 0, none⟩) ∧ w.heap.size ≤ q ∧ OkB v173 q 4 ∧ Bx v173 q 29 #[.bool na0, .slice A0 n0 c0, .bool nb0, .slice B0 m0 d0] := E173.facts 0 (by decide)
  have h183 : w.heap.size ≤ q178 := Nat.le_trans HB l180
  refine then_normal ?_
  refine wp_seq ?_
  refine wp_seq ?_
  have HB : w.heap.size ≤ v173.heap.size := T174.size
  refine wp_plan_seq [.val (.is (.agg #[.bool na0, .slice A0 n0 c0, .bool nb0, .slice B0 m0 d0])), .new 4 (some (29, #[.bool na0, .slice A0 n0 c0, .bool nb0, .slice B0 m0 d0])) (some 1), .val (.is (.int .i64 30)), .val (.is (.int .i64 30))] [] [] w.heap.size (by kernel_rfl) (by kernel_rfl) trivial HB ?_ ?_
  · exact ⟨fun s v h => does_val rfl rfl (x_load_r ((h.same 1 rfl).trans p179) ((h.far q178 b182.lt (by simp)).trans b182)) rfl,
      fun s v h => does_row rfl rfl (x_row1 (h.dep 0 rfl)) (okr _ _ _ _ _ _ _ _) rfl,
      fun s v h => does_call rfl rfl (x_call1 Try.call41) (valid1_k (h.dep 1 rfl) (pair_mono f175 h.mono) dv),
      fun s v h => does_val rfl rfl (x_assign) (h.dep 2 rfl), trivial⟩
  intro g184 ts v184 hts E184
  simp only [fillL, Nat.reduceAdd, List.setIfInBounds_toArray, List.set_cons_zero, List.set_cons_succ] at hts
  subst hts
  have T185 : Below w.heap.size w v184 := T174.trans E184.below
  have l186 : q178 < v173.heap.size := b182.lt
  have b187 : Bx v184 q178 29 #[.bool na0, .slice A0 n0 c0, .bool nb0, .slice B0 m0 d0] := (E184.far q178 b182.lt (by simp)).trans b182
  have e191 : g184 3 = (.int .i64 30) := E184.facts 3 (by decide)
  refine then_normal ?_
  refine wp_seq ?_
  have HB : w.heap.size ≤ v184.heap.size := T185.size
  refine wp_plan_seq [.val (.is (.int .i64 30)), .val (.is (.bool true))] [] [] w.heap.size (by kernel_rfl) (by kernel_rfl) trivial HB ?_ ?_
  · exact ⟨fun s v h => does_val rfl rfl (x_move) ((h.same 4 rfl).trans e191),
      fun s v h => does_val rfl rfl (x_neq_err (h.dep 0 rfl) rfl) rfl, trivial⟩
  intro g192 ts v192 hts E192
  simp only [fillL, Nat.reduceAdd, List.setIfInBounds_toArray, List.set_cons_zero, List.set_cons_succ] at hts
  subst hts
  have T193 : Below w.heap.size w v192 := T185.trans E192.below
  have l194 : q178 < v184.heap.size := b187.lt
  have b195 : Bx v192 q178 29 #[.bool na0, .slice A0 n0 c0, .bool nb0, .slice B0 m0 d0] := (E192.far q178 b187.lt (by simp)).trans b187
  have e198 : g192 1 = (.bool true) := E192.facts 1 (by decide)
  refine then_normal ?_
  refine wp_cond_true e198 ?_
  refine wp_seq ?_
  have HB : w.heap.size ≤ v192.heap.size := T193.size
  refine wp_plan_seq [.val (.is (.int .i64 30)), .val (.is (.string (⟨#[]⟩ : ByteArray))), .val (.is (.int .i64 30))] [] [] w.heap.size (by kernel_rfl) (by kernel_rfl) trivial HB ?_ ?_
  · exact ⟨fun s v h => does_val rfl rfl (x_move) ((h.same 4 rfl).trans e191),
      fun s v h => does_val rfl rfl (x_assign) rfl,
      fun s v h => does_val rfl rfl (x_assign) (h.dep 0 rfl), trivial⟩
  intro g199 ts v199 hts E199
  simp only [fillL, Nat.reduceAdd, List.setIfInBounds_toArray, List.set_cons_zero, List.set_cons_succ] at hts
  subst hts
  have T200 : Below w.heap.size w v199 := T193.trans E199.below
  have l201 : q178 < v192.heap.size := b195.lt
  have e205 : g199 1 = (.string (⟨#[]⟩ : ByteArray)) := E199.facts 1 (by decide)
  have e206 : g199 2 = (.int .i64 30) := E199.facts 2 (by decide)
  refine then_normal ?_
  refine wp_ret ?_
  exact bodyPost_ret (results_tmp2 (t := 2) (u := 3) rfl _ _ _) rfl ⟨_, rfl, ⟨_, _, rfl, e205, e206⟩, T200⟩

theorem qtext_k {w : World} {x : Value} {p q : Int} {N0 : Nat} (h0 : Rz N0 w x p q) (hN0 : N0 ≤ 10000000) (hq : q ≠ 0) (dv : decide (q.sign ≤ 0) = false) : Calls Try.prog 39 #[x] w (Ret (.tup2 (.is (.string (qtxt p q))) (.is (.int .i64 0))) w) := by
  unfold qtxt
  by_cases h : rd p q = 1
  · rw [if_pos h]
    exact qtext_a h0 hN0 hq dv (by rw [h]; rfl)
  · rw [if_neg h]
    refine qtext_c h0 hN0 hq dv ?_
    cases e : ((rd p q - 1).sign == 0) with
    | false => rfl
    | true => exact absurd (sign_eq_zero.1 e) (by omega)

set_option maxHeartbeats 4000000 in
set_option maxRecDepth 8000 in
theorem lhalf_k {w : World} {n : Int} (hn0 : -9223372036854775808 ≤ n) (hn1 : n ≤ 9223372036854775807)  : Calls Try.prog 33 #[.int .i64 n] w (Ret (.pair (.cz n) (.cz 2)) w) := by
  have T0 : Below w.heap.size w w := Below.refl _ _
  go_enter Try.func33, Try.ntmps33
  refine wp_seq ?_
  have HB : w.heap.size ≤ w.heap.size := T0.size
  refine wp_plan_seq [.new 4 (some (29, #[.bool false, .slice none 0 0, .bool false, .slice none 0 0]))] [] [] w.heap.size (by kernel_rfl) (by kernel_rfl) trivial HB ?_ ?_
  · exact ⟨fun s v h => does_new rfl rfl x_alloc_r (okr _ _ _ _ _ _ _ _) rfl (.inr rfl), trivial⟩
  intro g207 ts v207 hts E207
  simp only [fillL, List.setIfInBounds_toArray, List.set_cons_zero, List.set_cons_succ] at hts
  subst hts
  have T208 : Below w.heap.size w v207 := T0.trans E207.below
  obtain ⟨q209, p210, l211, o212, b213⟩ : ∃ q, g207 0 = .pointer (some ⟨q, 0, none⟩) ∧ w.heap.size ≤ q ∧ OkB v207 q 4 ∧ Bx v207 q 29 #[.bool false, .slice none 0 0, .bool false, .slice none 0 0] := E207.facts 0 (by decide)
  have h215 : w.heap.size ≤ q209 := Nat.le_trans HB l211
  refine then_normal ?_
  refine wp_seq ?_
  have HB : w.heap.size ≤ v207.heap.size := T208.size
  refine wp_plan_seq [.val (.is (.int .i64 n)), .val (.cz n), .val (.cz 2), .val (.pair (.cz n) (.cz 2)), .put 2 6] [2] [q209] w.heap.size (by kernel_rfl) (by kernel_rfl) ⟨p210, b213.lt, (by simp), trivial⟩ HB ?_ ?_
  · exact ⟨fun s v h => does_val rfl rfl (x_move) (h.same 0 rfl),
      fun s v h => does_call rfl rfl (x_call1 Try.call46) (r2of_k (h.dep 0 rfl) (by omega) (by omega)),
      fun s v h => does_call rfl rfl (x_call1 Try.call46) (r2of_k rfl (by decide) (by decide)),
      fun s v h => does_build_r2 rfl rfl (num_cz _) (num_cz _) (h.dep 1 rfl) (h.dep 2 rfl),
      fun s v h => does_put_r rfl rfl ((h.same 2 rfl).trans p210) (pair_shape (num_cz _) (num_cz _) (h.dep 3 rfl)) (h.mono.ok _ _ b213.ok4) h215, trivial⟩
  intro g216 ts v216 hts E216
  simp only [fillL, Nat.reduceAdd, List.setIfInBounds_toArray, List.set_cons_zero, List.set_cons_succ] at hts
  subst hts
  have T217 : Below w.heap.size w v216 := T208.trans E216.below
  have l218 : q209 < v207.heap.size := b213.lt
  have f223 : ((.pair (.cz n) (.cz 2)) : Known).p v216 (g216 3) := E216.facts 3 (by decide)
  obtain ⟨t224, x226, A227, m228, c229, x230, A231, m232, c233, e234, b225⟩ := put_info4 (E216.facts 4 (by decide)) p210 (pair_shape (num_cz _) (num_cz _) f223)
  have f235 : ((.pair (.cz n) (.cz 2)) : Known).p v216 (.agg #[.bool x226, .slice A227 m228 c229, .bool x230, .slice A231 m232 c233]) := pair_at f223 e234.symm
  refine then_normal ?_
  refine wp_ret ?_
  exact bodyPost_ret (ret_r rfl p210 b225) rfl ⟨_, rfl, f235, T217⟩

set_option maxHeartbeats 4000000 in
set_option maxRecDepth 8000 in
theorem lsame_k {w : World} {x y : Value} {a b c d : Int} (h0 : (Known.pair (.cz a) (.cz b)).p w x) (h1 : (Known.pair (.cz c) (.cz d)).p w y) (ea : a = c) (eb : b = d)  : Calls Try.prog 15 #[x, y] w (Ret (.is (.bool true)) w) := by
  obtain ⟨na0, A0, n0, c0, nb0, B0, m0, d0, e0r⟩ := pair_shape (num_cz _) (num_cz _) h0
  subst e0r
  obtain ⟨na1, A1, n1, c1, nb1, B1, m1, d1, e1r⟩ := pair_shape (num_cz _) (num_cz _) h1
  subst e1r
  have T0 : Below w.heap.size w w := Below.refl _ _
  go_enter Try.func15, Try.ntmps15
  refine wp_seq ?_
  have HB : w.heap.size ≤ w.heap.size := T0.size
  refine wp_plan_seq [.new 4 (some (29, #[.bool na0, .slice A0 n0 c0, .bool nb0, .slice B0 m0 d0])), .new 4 (some (29, #[.bool na1, .slice A1 n1 c1, .bool nb1, .slice B1 m1 d1])), .val (.is (.bool false))] [] [] w.heap.size (by kernel_rfl) (by kernel_rfl) trivial HB ?_ ?_
  · exact ⟨fun s v h => does_new rfl rfl (x_box_r (h.same 0 rfl)) (okr _ _ _ _ _ _ _ _) rfl (.inr rfl),
      fun s v h => does_new rfl rfl (x_box_r (h.same 1 rfl)) (okr _ _ _ _ _ _ _ _) rfl (.inr rfl),
      fun s v h => does_val rfl rfl (x_assign) rfl, trivial⟩
  intro g236 ts v236 hts E236
  simp only [fillL, Nat.reduceAdd, List.setIfInBounds_toArray, List.set_cons_zero, List.set_cons_succ] at hts
  subst hts
  have T237 : Below w.heap.size w v236 := T0.trans E236.below
  have f238 := (pair_mono h0 E236.mono)
  have f239 := (pair_mono h1 E236.mono)
  obtain ⟨q241, p242, l243, o244, b245⟩ : ∃ q, g236 0 = .pointer (some ⟨q, 0, none⟩) ∧ w.heap.size ≤ q ∧ OkB v236 q 4 ∧ Bx v236 q 29 #[.bool na0, .slice A0 n0 c0, .bool nb0, .slice B0 m0 d0] := E236.facts 0 (by decide)
  have h246 : w.heap.size ≤ q241 := Nat.le_trans HB l243
  obtain ⟨q247, p248, l249, o250, b251⟩ : ∃ q, g236 1 = .pointer (some ⟨q, 0, none⟩) ∧ w.heap.size ≤ q ∧ OkB v236 q 4 ∧ Bx v236 q 29 #[.bool na1, .slice A1 n1 c1, .bool nb1, .slice B1 m1 d1] := E236.facts 1 (by decide)
  have h252 : w.heap.size ≤ q247 := Nat.le_trans HB l249
  refine then_normal ?_
  refine wp_seq ?_
  have HB : w.heap.size ≤ v236.heap.size := T237.size
  refine wp_plan_seq [.val (.is (.pointer (some ⟨q241, 0, none⟩))), .val (.cz a), .val (.is (.pointer (some ⟨q247, 0, none⟩))), .val (.cz c), .val (.is (.bool true)), .val (.is (.bool true)), .val (.is (.pointer (some ⟨q241, 2, none⟩))), .val (.cz b), .val (.is (.pointer (some ⟨q247, 2, none⟩))), .val (.cz d), .val (.is (.bool true)), .val (.is (.bool true)), .val (.is (.bool true))] [] [] w.heap.size (by kernel_rfl) (by kernel_rfl) trivial HB ?_ ?_
  · exact ⟨fun s v h => does_val rfl rfl (x_fld_r0 ((h.same 2 rfl).trans p242)) rfl,
      fun s v h => does_val rfl rfl (x_load_r0 (h.dep 0 rfl) ((h.far q241 b245.lt (by simp)).trans b245)) (pair_fst (pair_mono f238 h.mono)),
      fun s v h => does_val rfl rfl (x_fld_r0 ((h.same 3 rfl).trans p248)) rfl,
      fun s v h => does_val rfl rfl (x_load_r0 (h.dep 2 rfl) ((h.far q247 b251.lt (by simp)).trans b251)) (pair_fst (pair_mono f239 h.mono)),
      fun s v h => does_call rfl rfl (x_call2 Try.call35) (whole_k (h.dep 1 rfl) (h.dep 3 rfl) ea),
      fun s v h => does_val rfl rfl (x_move) (h.dep 4 rfl),
      fun s v h => does_val rfl (wanted_by (b := true) (want := true) rfl rfl (h.dep 5 rfl)) (x_fld_r1 ((h.same 2 rfl).trans p242)) rfl,
      fun s v h => does_val rfl (wanted_by (b := true) (want := true) rfl rfl (h.dep 5 rfl)) (x_load_r1 (h.dep 6 rfl) ((h.far q241 b245.lt (by simp)).trans b245)) (pair_snd (pair_mono f238 h.mono)),
      fun s v h => does_val rfl (wanted_by (b := true) (want := true) rfl rfl (h.dep 5 rfl)) (x_fld_r1 ((h.same 3 rfl).trans p248)) rfl,
      fun s v h => does_val rfl (wanted_by (b := true) (want := true) rfl rfl (h.dep 5 rfl)) (x_load_r1 (h.dep 8 rfl) ((h.far q247 b251.lt (by simp)).trans b251)) (pair_snd (pair_mono f239 h.mono)),
      fun s v h => does_call rfl (wanted_by (b := true) (want := true) rfl rfl (h.dep 5 rfl)) (x_call2 Try.call35) (whole_k (h.dep 7 rfl) (h.dep 9 rfl) eb),
      fun s v h => does_val rfl rfl (x_pick (h.dep 5 rfl)) (h.dep 10 rfl),
      fun s v h => does_val rfl rfl (x_assign) (h.dep 11 rfl), trivial⟩
  intro g254 ts v254 hts E254
  simp only [fillL, Nat.reduceAdd, List.setIfInBounds_toArray, List.set_cons_zero, List.set_cons_succ] at hts
  subst hts
  have T255 : Below w.heap.size w v254 := T237.trans E254.below
  have l256 : q241 < v236.heap.size := b245.lt
  have l257 : q247 < v236.heap.size := b251.lt
  have e270 : g254 12 = (.bool true) := E254.facts 12 (by decide)
  refine then_normal ?_
  refine wp_ret ?_
  exact bodyPost_ret (results_tmp (t := 4) rfl _ _ _) rfl ⟨_, rfl, e270, T255⟩

set_option maxHeartbeats 4000000 in
set_option maxRecDepth 8000 in
theorem lok_k {w : World} {x : Value} {p q : Int} {N0 : Nat} (h0 : Rz N0 w x p q) (hN0 : N0 ≤ 100000000)  : Calls Try.prog 31 #[x] w (Ret (.is (.bool (decide (0 < q.sign)))) w) := by
  obtain ⟨na0, A0, n0, c0, nb0, B0, m0, d0, e0r, hx0, hy0⟩ := Rz.parts h0
  subst e0r
  have la0 := hx0.len
  have lb0 := hy0.len
  have T0 : Below w.heap.size w w := Below.refl _ _
  go_enter Try.func31, Try.ntmps31
  refine wp_seq ?_
  have HB : w.heap.size ≤ w.heap.size := T0.size
  refine wp_plan_seq [.new 4 (some (29, #[.bool na0, .slice A0 n0 c0, .bool nb0, .slice B0 m0 d0])), .val (.is (.bool false))] [] [] w.heap.size (by kernel_rfl) (by kernel_rfl) trivial HB ?_ ?_
  · exact ⟨fun s v h => does_new rfl rfl (x_box_r (h.same 0 rfl)) (okr _ _ _ _ _ _ _ _) rfl (.inr rfl),
      fun s v h => does_val rfl rfl (x_assign) rfl, trivial⟩
  intro g271 ts v271 hts E271
  simp only [fillL, Nat.reduceAdd, List.setIfInBounds_toArray, List.set_cons_zero, List.set_cons_succ] at hts
  subst hts
  have T272 : Below w.heap.size w v271 := T0.trans E271.below
  have f273 := (pair_mono h0 E271.mono)
  obtain ⟨q275, p276, l277, o278, b279⟩ : ∃ q, g271 0 = .pointer (some ⟨q, 0, none⟩) ∧ w.heap.size ≤ q ∧ OkB v271 q 4 ∧ Bx v271 q 29 #[.bool na0, .slice A0 n0 c0, .bool nb0, .slice B0 m0 d0] := E271.facts 0 (by decide)
  have h280 : w.heap.size ≤ q275 := Nat.le_trans HB l277
  refine then_normal ?_
  refine wp_seq ?_
  have HB : w.heap.size ≤ v271.heap.size := T272.size
  refine wp_plan_seq [.val (.pair (.az N0 p) (.az N0 q)), .val (.is (.bool (decide (0 < q.sign)))), .val (.is (.bool (decide (0 < q.sign))))] [] [] w.heap.size (by kernel_rfl) (by kernel_rfl) trivial HB ?_ ?_
  · exact ⟨fun s v h => does_val rfl rfl (x_load_r ((h.same 1 rfl).trans p276) ((h.far q275 b279.lt (by simp)).trans b279)) (pair_mono f273 h.mono),
      fun s v h => does_call rfl rfl (x_call1 Try.call65) (r3valid_k (h.dep 0 rfl) (by omega)),
      fun s v h => does_val rfl rfl (x_assign) (h.dep 1 rfl), trivial⟩
  intro g281 ts v281 hts E281
  simp only [fillL, Nat.reduceAdd, List.setIfInBounds_toArray, List.set_cons_zero, List.set_cons_succ] at hts
  subst hts
  have T282 : Below w.heap.size w v281 := T272.trans E281.below
  have l283 : q275 < v271.heap.size := b279.lt
  have e288 : g281 2 = (.bool (decide (0 < q.sign))) := E281.facts 2 (by decide)
  refine then_normal ?_
  refine wp_ret ?_
  exact bodyPost_ret (results_tmp (t := 2) rfl _ _ _) rfl ⟨_, rfl, e288, T282⟩

theorem ret_lit {w : World} {P : Program} {f : FuncId} {args : Array Value} {b c : Bool} (e : b = c) (h : Calls P f args w (Ret (.is (.bool b)) w)) : Calls P f args w (Ret (.is (.bool c)) w) := e ▸ h

theorem ztxt_one : ztxt 1 = ⟨#[49]⟩ := by
  unfold ztxt decs
  rw [if_neg (by omega), if_neg (by decide), show (Int.natAbs 1) = 1 from rfl, decR_pos (by omega), show 1 / 10 = 0 from rfl, decR_zero]
  rfl
theorem rn_22 : rn 2 2 = 1 ∧ rd 2 2 = 1 := r_unique (by decide) (by decide) (by decide) (by decide)
theorem near_32 : fl ((-3) + (-3) + 2) (2 + 2) = -1 := by decide
theorem text_22 : ((ztxt (rn 2 2)).toList == (⟨#[49]⟩ : ByteArray).toList) = true := by rw [rn_22.1, ztxt_one]; simp

theorem two_lit {P : Program} {f : FuncId} {k m : Value} {v : World} {Q : Ending → World → Prop} (e : k = m) (h : Calls P f #[m] v Q) : Calls P f #[k] v Q := by
  subst e
  exact h

set_option maxHeartbeats 4000000 in
set_option maxRecDepth 8000 in
theorem lawake_k {w : World}  : Calls Try.prog 16 #[] w (Ret (.is (.bool true)) w) := by
  have T0 : Below w.heap.size w w := Below.refl _ _
  go_enter Try.func16, Try.ntmps16
  refine wp_seq ?_
  have HB : w.heap.size ≤ w.heap.size := T0.size
  refine wp_plan_seq [.val (.is (.bool false))] [] [] w.heap.size (by kernel_rfl) (by kernel_rfl) trivial HB ?_ ?_
  · exact ⟨fun s v h => does_val rfl rfl (x_assign) rfl, trivial⟩
  intro g388 ts v388 hts E388
  simp only [fillL, List.setIfInBounds_toArray, List.set_cons_zero] at hts
  subst hts
  have T389 : Below w.heap.size w v388 := T0.trans E388.below
  refine then_normal ?_
  refine wp_seq ?_
  have HB : w.heap.size ≤ v388.heap.size := T389.size
  refine wp_plan_seq [.val (.pair (.cz (-3)) (.cz 2)), .val (.tup2 (.cz (fl ((-3) + (-3) + 2) (2 + 2))) (.is (.int .i64 0))), .val (.tup2 (.cz (fl ((-3) + (-3) + 2) (2 + 2))) (.is (.int .i64 0))), .val (.cz (fl ((-3) + (-3) + 2) (2 + 2))), .val (.is (.int .i64 0)), .new 2 none, .put 1 8, .val (.is (.int .i64 0))] [] [] w.heap.size (by kernel_rfl) (by kernel_rfl) trivial HB ?_ ?_
  · exact ⟨fun s v h => does_call rfl rfl (x_call1 Try.call33) (two_lit rfl (lhalf_k (by decide) (by decide))),
      fun s v h => does_call rfl rfl (x_call1 Try.call32) (qnear_k (rz_cc (N := 1) (h.dep 0 rfl) (show (digs (Int.natAbs (-3))).length ≤ 1 from digs_len_le (by decide)) (show (digs (Int.natAbs 2)).length ≤ 1 from digs_len_le (by decide))) (by decide) (by decide) (by decide)),
      fun s v h => does_val rfl rfl (x_move) (h.dep 1 rfl),
      fun s v h => by obtain ⟨r0, r1, e, f0, f1⟩ := tup2_at (h.dep 2 rfl); exact does_val rfl rfl (x_ext e rfl) f0,
      fun s v h => by obtain ⟨r0, r1, e, f0, f1⟩ := tup2_at (h.dep 2 rfl); exact does_val rfl rfl (x_ext e rfl) f1,
      fun s v h => does_new rfl rfl x_alloc_z (okz _ _ _ _) rfl (.inl rfl),
      fun s v h => by obtain ⟨q, e1, e2, e3⟩ := new_at (h.dep 5 rfl); exact does_put_z rfl rfl e1 (h.dep 3 rfl).shape e3 (Nat.le_trans HB e2),
      fun s v h => does_val rfl rfl (x_assign) (h.dep 4 rfl), trivial⟩
  intro g391 ts v391 hts E391
  simp only [fillL, Nat.reduceAdd, List.setIfInBounds_toArray, List.set_cons_zero, List.set_cons_succ] at hts
  subst hts
  have T392 : Below w.heap.size w v391 := T389.trans E391.below
  have f394 : Cz v391 (g391 3) (fl ((-3) + (-3) + 2) (2 + 2)) := E391.facts 3 (by decide)
  have e396 : g391 7 = (.int .i64 0) := E391.facts 7 (by decide)
  obtain ⟨q397, p398, l399, o400⟩ : ∃ q, g391 5 = .pointer (some ⟨q, 0, none⟩) ∧ v388.heap.size ≤ q ∧ OkB v391 q 2 := E391.facts 5 (by decide)
  have h401 : w.heap.size ≤ q397 := Nat.le_trans HB l399
  obtain ⟨t402, x404, A405, m406, c407, e408, b403⟩ := put_info (E391.facts 6 (by decide)) p398 f394.shape
  have f409 : Cz v391 (.agg #[.bool x404, .slice A405 m406 c407]) (fl ((-3) + (-3) + 2) (2 + 2)) := f394.at e408.symm
  refine then_normal ?_
  refine wp_seq ?_
  have HB : w.heap.size ≤ v391.heap.size := T392.size
  refine wp_plan_seq [.val (.pair (.cz 2) (.cz 2)), .val (.tup2 (.is (.string (ztxt (rn 2 2)))) (.is (.int .i64 0))), .val (.tup2 (.is (.string (ztxt (rn 2 2)))) (.is (.int .i64 0))), .val (.is (.string (ztxt (rn 2 2)))), .val (.is (.int .i64 0)), .val (.is (.string (ztxt (rn 2 2)))), .val (.is (.int .i64 0))] [] [] w.heap.size (by kernel_rfl) (by kernel_rfl) trivial HB ?_ ?_
  · exact ⟨fun s v h => does_call rfl rfl (x_call1 Try.call33) (two_lit rfl (lhalf_k (by decide) (by decide))),
      fun s v h => does_call rfl rfl (x_call1 Try.call39) (qtext_a (rz_cc (N := 1) (h.dep 0 rfl) (show (digs (Int.natAbs 2)).length ≤ 1 from digs_len_le (by decide)) (show (digs (Int.natAbs 2)).length ≤ 1 from digs_len_le (by decide))) (by decide) (by decide) (by decide) (by rw [rn_22.2]; rfl)),
      fun s v h => does_val rfl rfl (x_move) (h.dep 1 rfl),
      fun s v h => by obtain ⟨r0, r1, e, f0, f1⟩ := tup2_at (h.dep 2 rfl); exact does_val rfl rfl (x_ext e rfl) f0,
      fun s v h => by obtain ⟨r0, r1, e, f0, f1⟩ := tup2_at (h.dep 2 rfl); exact does_val rfl rfl (x_ext e rfl) f1,
      fun s v h => does_val rfl rfl (x_assign) (h.dep 3 rfl),
      fun s v h => does_val rfl rfl (x_assign) (h.dep 4 rfl), trivial⟩
  intro g410 ts v410 hts E410
  simp only [fillL, Nat.reduceAdd, List.setIfInBounds_toArray, List.set_cons_zero, List.set_cons_succ] at hts
  subst hts
  have T411 : Below w.heap.size w v410 := T392.trans E410.below
  have l412 : q397 < v391.heap.size := b403.lt
  have b413 : Bx v410 q397 t402 #[.bool x404, .slice A405 m406 c407] := (E410.far q397 b403.lt (by simp)).trans b403
  have f416 := (f409.mono E410.mono)
  have e420 : g410 5 = (.string (ztxt (rn 2 2))) := E410.facts 5 (by decide)
  have e421 : g410 6 = (.int .i64 0) := E410.facts 6 (by decide)
  refine then_normal ?_
  refine wp_seq ?_
  have HB : w.heap.size ≤ v410.heap.size := T411.size
  refine wp_plan_any [.val (.is (.int .i64 0)), .val (.is (.bool true)), .val (.is (.bool true)), .val (.cz (fl ((-3) + (-3) + 2) (2 + 2))), .val (.cz (-1)), .val (.is (.bool true)), .val (.is (.bool true)), .val (.is (.bool true)), .val (.is (.int .i64 0)), .val (.is (.bool true)), .val (.is (.bool true)), .val (.is (.bool true)), .val (.is (.string (ztxt (rn 2 2)))), .val (.is (.bool true)), .val (.is (.bool true)), .val (.is (.bool true))] [] [] w.heap.size (by kernel_rfl) (by kernel_rfl) (by kernel_rfl) trivial HB ?_ ?_
  · exact ⟨fun s v h => does_val rfl rfl (x_move) ((h.same 2 rfl).trans e396),
      fun s v h => does_val rfl rfl (x_eql_err (h.dep 0 rfl) rfl) rfl,
      fun s v h => does_val rfl rfl (x_move) (h.dep 1 rfl),
      fun s v h => does_val rfl (wanted_by (b := true) (want := true) rfl rfl (h.dep 2 rfl)) (x_load_z ((h.same 1 rfl).trans p398) ((h.far q397 b413.lt (by simp)).trans b413)) (f416.mono ((Mono.drew _).trans h.mono)),
      fun s v h => does_call rfl (wanted_by (b := true) (want := true) rfl rfl (h.dep 2 rfl)) (x_call1 Try.call46) (r2of_k rfl (by decide) (by decide)),
      fun s v h => does_call rfl (wanted_by (b := true) (want := true) rfl rfl (h.dep 2 rfl)) (x_call2 Try.call35) (whole_k (h.dep 3 rfl) (h.dep 4 rfl) near_32),
      fun s v h => does_val rfl rfl (x_pick (h.dep 2 rfl)) (h.dep 5 rfl),
      fun s v h => does_val rfl rfl (x_move) (h.dep 6 rfl),
      fun s v h => does_val rfl (wanted_by (b := true) (want := true) rfl rfl (h.dep 7 rfl)) (x_move) ((h.same 4 rfl).trans e421),
      fun s v h => does_val rfl (wanted_by (b := true) (want := true) rfl rfl (h.dep 7 rfl)) (x_eql_err (h.dep 8 rfl) rfl) rfl,
      fun s v h => does_val rfl rfl (x_pick (h.dep 7 rfl)) (h.dep 9 rfl),
      fun s v h => does_val rfl rfl (x_move) (h.dep 10 rfl),
      fun s v h => does_val rfl (wanted_by (b := true) (want := true) rfl rfl (h.dep 11 rfl)) (x_move) ((h.same 3 rfl).trans e420),
      fun s v h => does_val rfl (wanted_by (b := true) (want := true) rfl rfl (h.dep 11 rfl)) (x_eql_str (h.dep 12 rfl) rfl) (congrArg Value.bool text_22),
      fun s v h => does_val rfl rfl (x_pick (h.dep 11 rfl)) (h.dep 13 rfl),
      fun s v h => does_val rfl rfl (x_assign) (h.dep 14 rfl), trivial⟩
  intro g422 ts v422 hts E422
  simp only [fillL, Nat.reduceAdd, List.setIfInBounds_toArray, List.set_cons_zero, List.set_cons_succ] at hts
  subst hts
  have T423 : Below w.heap.size w v422 := (below_toDrew T411).trans E422.below
  have l424 : q397 < v410.heap.size := b413.lt
  have e445 : g422 15 = (.bool true) := E422.facts 15 (by decide)
  refine then_normal ?_
  refine wp_ret ?_
  exact bodyPost_ret (results_tmp (t := 0) rfl _ _ _) rfl ⟨_, rfl, e445, T423⟩

end Go.Proofs.Ytdmahjbjlppeaaa
