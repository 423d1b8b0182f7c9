
/- The law RatProducts. -/
import Derived.Test.YtdmahjbjlppeaaaQ5
namespace Go.Proofs.Ytdmahjbjlppeaaa
open Go.RowKit

set_option maxHeartbeats 4000000 in
set_option maxRecDepth 8000 in
theorem rp_a {w : World} {x : Value} {p q : Int} (h0 : Rz 1048576 w x p q) {y : Value} {p1 q1 : Int} (h1 : Rz 1048576 w y p1 q1) (hp : 0 < q) (hp1 : 0 < q1) (db : (decide (0 < q.sign) && decide (0 < q1.sign)) = true) (hn : p1 ≠ 0) (dn : (p1.sign == 0) = false)  : Calls Try.prog 7 #[x, y] w (Ret (.is (.bool true)) w) := by
  obtain ⟨na0, A0, n0, c0, nb0, B0, m0, d0, e0r, hx0, hy0⟩ := Rz.parts h0
  subst e0r
  have la0 := hx0.len
  have lb0 := hy0.len
  obtain ⟨na1, A1, n1, c1, nb1, B1, m1, d1, e1r, hx1, hy1⟩ := Rz.parts h1
  subst e1r
  have la1 := hx1.len
  have lb1 := hy1.len
  have hq0 : q ≠ 0 := by omega
  have hq1 : q1 ≠ 0 := by omega
  have T0 : Below w.heap.size w w := Below.refl _ _
  go_enter Try.func7, Try.ntmps7
  refine wp_seq ?_
  have HB : w.heap.size ≤ w.heap.size := T0.size
  refine wp_plan_seq [.new 4 (some (29, #[.bool na0, .slice A0 n0 c0, .bool nb0, .slice B0 m0 d0])), .new 4 (some (29, #[.bool na1, .slice A1 n1 c1, .bool nb1, .slice B1 m1 d1])), .val (.is (.bool false))] [] [] w.heap.size (by kernel_rfl) (by kernel_rfl) trivial HB ?_ ?_
  · exact ⟨fun s v h => does_new rfl rfl (x_box_r (h.same 0 rfl)) (okr _ _ _ _ _ _ _ _) rfl (.inr rfl),
      fun s v h => does_new rfl rfl (x_box_r (h.same 1 rfl)) (okr _ _ _ _ _ _ _ _) rfl (.inr rfl),
      fun s v h => does_val rfl rfl (x_assign) rfl, trivial⟩
  intro g665 ts v665 hts E665
  simp only [fillL, Nat.reduceAdd, List.setIfInBounds_toArray, List.set_cons_zero, List.set_cons_succ] at hts
  subst hts
  have T666 : Below w.heap.size w v665 := T0.trans E665.below
  have f667 := (pair_mono h0 E665.mono)
  have f668 := (pair_mono h1 E665.mono)
  obtain ⟨q670, p671, l672, o673, b674⟩ : ∃ q, g665 0 = .pointer (some ⟨q, 0, none⟩) ∧ w.heap.size ≤ q ∧ OkB v665 q 4 ∧ Bx v665 q 29 #[.bool na0, .slice A0 n0 c0, .bool nb0, .slice B0 m0 d0] := E665.facts 0 (by decide)
  have h675 : w.heap.size ≤ q670 := Nat.le_trans HB l672
  obtain ⟨q676, p677, l678, o679, b680⟩ : ∃ q, g665 1 = .pointer (some ⟨q, 0, none⟩) ∧ w.heap.size ≤ q ∧ OkB v665 q 4 ∧ Bx v665 q 29 #[.bool na1, .slice A1 n1 c1, .bool nb1, .slice B1 m1 d1] := E665.facts 1 (by decide)
  have h681 : w.heap.size ≤ q676 := Nat.le_trans HB l678
  refine then_normal ?_
  refine wp_seq ?_
  have HB : w.heap.size ≤ v665.heap.size := T666.size
  refine wp_plan_seq [.val (.pair (.az 1048576 p) (.az 1048576 q)), .val (.pair (.az 1048576 p1) (.az 1048576 q1)), .val (.tup2 (.pair (.cz (rn (p * p1) (q * q1))) (.cz (rd (p * p1) (q * q1)))) (.is (.int .i64 0))), .val (.tup2 (.pair (.cz (rn (p * p1) (q * q1))) (.cz (rd (p * p1) (q * q1)))) (.is (.int .i64 0))), .val (.pair (.cz (rn (p * p1) (q * q1))) (.cz (rd (p * p1) (q * q1)))), .val (.is (.int .i64 0)), .new 4 none, .put 5 13, .val (.is (.int .i64 0))] [] [] w.heap.size (by kernel_rfl) (by kernel_rfl) trivial HB ?_ ?_
  · exact ⟨fun s v h => does_val rfl rfl (x_load_r ((h.same 2 rfl).trans p671) ((h.far q670 b674.lt (by simp)).trans b674)) (pair_mono f667 h.mono),
      fun s v h => does_val rfl rfl (x_load_r ((h.same 3 rfl).trans p677) ((h.far q676 b680.lt (by simp)).trans b680)) (pair_mono f668 h.mono),
      fun s v h => does_call rfl rfl (x_call2 Try.call27) (qmul_k (h.dep 0 rfl) (h.dep 1 rfl) (by omega) (by omega) hq0 hq1 (dv_of hp hp1)),
      fun s v h => does_val rfl rfl (x_move) (h.dep 2 rfl),
      fun s v h => by obtain ⟨r0, r1, e, f0, f1⟩ := tup2_at (h.dep 3 rfl); exact does_val rfl rfl (x_ext e rfl) f0,
      fun s v h => by obtain ⟨r0, r1, e, f0, f1⟩ := tup2_at (h.dep 3 rfl); exact does_val rfl rfl (x_ext e rfl) f1,
      fun s v h => does_new rfl rfl x_alloc_r (okr _ _ _ _ _ _ _ _) rfl (.inl rfl),
      fun s v h => by obtain ⟨q, e1, e2, e3⟩ := new_at (h.dep 6 rfl); exact does_put_r rfl rfl e1 (pair_shape (num_cz _) (num_cz _) (h.dep 4 rfl)) e3 (Nat.le_trans HB e2),
      fun s v h => does_val rfl rfl (x_assign) (h.dep 5 rfl), trivial⟩
  intro g683 ts v683 hts E683
  simp only [fillL, Nat.reduceAdd, List.setIfInBounds_toArray, List.set_cons_zero, List.set_cons_succ] at hts
  subst hts
  have T684 : Below w.heap.size w v683 := T666.trans E683.below
  have l685 : q670 < v665.heap.size := b674.lt
  have l686 : q676 < v665.heap.size := b680.lt
  have b687 : Bx v683 q670 29 #[.bool na0, .slice A0 n0 c0, .bool nb0, .slice B0 m0 d0] := (E683.far q670 b674.lt (by simp)).trans b674
  have b688 : Bx v683 q676 29 #[.bool na1, .slice A1 n1 c1, .bool nb1, .slice B1 m1 d1] := (E683.far q676 b680.lt (by simp)).trans b680
  have f689 := (pair_mono f667 E683.mono)
  have f690 := (pair_mono f668 E683.mono)
  have f693 : ((.pair (.cz (rn (p * p1) (q * q1))) (.cz (rd (p * p1) (q * q1)))) : Known).p v683 (g683 4) := E683.facts 4 (by decide)
  have e695 : g683 8 = (.int .i64 0) := E683.facts 8 (by decide)
  obtain ⟨q696, p697, l698, o699⟩ : ∃ q, g683 6 = .pointer (some ⟨q, 0, none⟩) ∧ v665.heap.size ≤ q ∧ OkB v683 q 4 := E683.facts 6 (by decide)
  have h700 : w.heap.size ≤ q696 := Nat.le_trans HB l698
  obtain ⟨t703, x705, A706, m707, c708, x709, A710, m711, c712, e713, b704⟩ := put_info4 (E683.facts 7 (by decide)) p697 (pair_shape (num_cz _) (num_cz _) f693)
  have f714 : ((.pair (.cz (rn (p * p1) (q * q1))) (.cz (rd (p * p1) (q * q1)))) : Known).p v683 (.agg #[.bool x705, .slice A706 m707 c708, .bool x709, .slice A710 m711 c712]) := pair_at f693 e713.symm
  refine then_normal ?_
  refine wp_seq ?_
  have HB : w.heap.size ≤ v683.heap.size := T684.size
  refine wp_plan_seq [.val (.pair (.az 1048576 p) (.az 1048576 q)), .val (.pair (.az 1048576 p1) (.az 1048576 q1)), .val (.tup2 (.pair (.cz (rn (p * q1) (q * p1))) (.cz (rd (p * q1) (q * p1)))) (.is (.int .i64 0))), .val (.tup2 (.pair (.cz (rn (p * q1) (q * p1))) (.cz (rd (p * q1) (q * p1)))) (.is (.int .i64 0))), .val (.pair (.cz (rn (p * q1) (q * p1))) (.cz (rd (p * q1) (q * p1)))), .val (.is (.int .i64 0)), .new 4 none, .put 7 19, .val (.is (.int .i64 0))] [] [] w.heap.size (by kernel_rfl) (by kernel_rfl) trivial HB ?_ ?_
  · exact ⟨fun s v h => does_val rfl rfl (x_load_r ((h.same 2 rfl).trans p671) ((h.far q670 b687.lt (by simp)).trans b687)) (pair_mono f689 h.mono),
      fun s v h => does_val rfl rfl (x_load_r ((h.same 3 rfl).trans p677) ((h.far q676 b688.lt (by simp)).trans b688)) (pair_mono f690 h.mono),
      fun s v h => does_call rfl rfl (x_call2 Try.call28) (qdiv_k (h.dep 0 rfl) (h.dep 1 rfl) (by omega) (by omega) hq0 hn (dv_of hp hp1) dn),
      fun s v h => does_val rfl rfl (x_move) (h.dep 2 rfl),
      fun s v h => by obtain ⟨r0, r1, e, f0, f1⟩ := tup2_at (h.dep 3 rfl); exact does_val rfl rfl (x_ext e rfl) f0,
      fun s v h => by obtain ⟨r0, r1, e, f0, f1⟩ := tup2_at (h.dep 3 rfl); exact does_val rfl rfl (x_ext e rfl) f1,
      fun s v h => does_new rfl rfl x_alloc_r (okr _ _ _ _ _ _ _ _) rfl (.inl rfl),
      fun s v h => by obtain ⟨q, e1, e2, e3⟩ := new_at (h.dep 6 rfl); exact does_put_r rfl rfl e1 (pair_shape (num_cz _) (num_cz _) (h.dep 4 rfl)) e3 (Nat.le_trans HB e2),
      fun s v h => does_val rfl rfl (x_assign) (h.dep 5 rfl), trivial⟩
  intro g715 ts v715 hts E715
  simp only [fillL, Nat.reduceAdd, List.setIfInBounds_toArray, List.set_cons_zero, List.set_cons_succ] at hts
  subst hts
  have T716 : Below w.heap.size w v715 := T684.trans E715.below
  have l717 : q670 < v683.heap.size := b687.lt
  have l718 : q676 < v683.heap.size := b688.lt
  have l719 : q696 < v683.heap.size := b704.lt
  have b720 : Bx v715 q670 29 #[.bool na0, .slice A0 n0 c0, .bool nb0, .slice B0 m0 d0] := (E715.far q670 b687.lt (by simp)).trans b687
  have b721 : Bx v715 q676 29 #[.bool na1, .slice A1 n1 c1, .bool nb1, .slice B1 m1 d1] := (E715.far q676 b688.lt (by simp)).trans b688
  have b722 : Bx v715 q696 t703 #[.bool x705, .slice A706 m707 c708, .bool x709, .slice A710 m711 c712] := (E715.far q696 b704.lt (by simp)).trans b704
  have f723 := (pair_mono f689 E715.mono)
  have f724 := (pair_mono f690 E715.mono)
  have f728 := (pair_mono f714 E715.mono)
  have f731 : ((.pair (.cz (rn (p * q1) (q * p1))) (.cz (rd (p * q1) (q * p1)))) : Known).p v715 (g715 4) := E715.facts 4 (by decide)
  have e733 : g715 8 = (.int .i64 0) := E715.facts 8 (by decide)
  obtain ⟨q734, p735, l736, o737⟩ : ∃ q, g715 6 = .pointer (some ⟨q, 0, none⟩) ∧ v683.heap.size ≤ q ∧ OkB v715 q 4 := E715.facts 6 (by decide)
  have h738 : w.heap.size ≤ q734 := Nat.le_trans HB l736
  obtain ⟨t742, x744, A745, m746, c747, x748, A749, m750, c751, e752, b743⟩ := put_info4 (E715.facts 7 (by decide)) p735 (pair_shape (num_cz _) (num_cz _) f731)
  have f753 : ((.pair (.cz (rn (p * q1) (q * p1))) (.cz (rd (p * q1) (q * p1)))) : Known).p v715 (.agg #[.bool x744, .slice A745 m746 c747, .bool x748, .slice A749 m750 c751]) := pair_at f731 e752.symm
  refine then_normal ?_
  refine wp_seq ?_
  refine wp_seq ?_
  have HB : w.heap.size ≤ v715.heap.size := T716.size
  refine wp_plan_seq [.val (.pair (.az 1048576 p) (.az 1048576 q)), .val (.pair (.az 1048576 p1) (.az 1048576 q1)), .val (.is (.bool true)), .val (.is (.bool false))] [] [] w.heap.size (by kernel_rfl) (by kernel_rfl) trivial HB ?_ ?_
  · exact ⟨fun s v h => does_val rfl rfl (x_load_r ((h.same 2 rfl).trans p671) ((h.far q670 b720.lt (by simp)).trans b720)) (pair_mono f723 h.mono),
      fun s v h => does_val rfl rfl (x_load_r ((h.same 3 rfl).trans p677) ((h.far q676 b721.lt (by simp)).trans b721)) (pair_mono f724 h.mono),
      fun s v h => does_call rfl rfl (x_call2 Try.call21) (ret_lit db (lboth_k (h.dep 0 rfl) (h.dep 1 rfl) (by omega) (by omega))),
      fun s v h => does_val rfl rfl (x_not (h.dep 2 rfl)) rfl, trivial⟩
  intro g754 ts v754 hts E754
  simp only [fillL, Nat.reduceAdd, List.setIfInBounds_toArray, List.set_cons_zero, List.set_cons_succ] at hts
  subst hts
  have T755 : Below w.heap.size w v754 := T716.trans E754.below
  have l756 : q670 < v715.heap.size := b720.lt
  have l757 : q676 < v715.heap.size := b721.lt
  have l758 : q696 < v715.heap.size := b722.lt
  have l759 : q734 < v715.heap.size := b743.lt
  have b760 : Bx v754 q670 29 #[.bool na0, .slice A0 n0 c0, .bool nb0, .slice B0 m0 d0] := (E754.far q670 b720.lt (by simp)).trans b720
  have b761 : Bx v754 q676 29 #[.bool na1, .slice A1 n1 c1, .bool nb1, .slice B1 m1 d1] := (E754.far q676 b721.lt (by simp)).trans b721
  have b762 : Bx v754 q696 t703 #[.bool x705, .slice A706 m707 c708, .bool x709, .slice A710 m711 c712] := (E754.far q696 b722.lt (by simp)).trans b722
  have b763 : Bx v754 q734 t742 #[.bool x744, .slice A745 m746 c747, .bool x748, .slice A749 m750 c751] := (E754.far q734 b743.lt (by simp)).trans b743
  have f764 := (pair_mono f723 E754.mono)
  have f765 := (pair_mono f724 E754.mono)
  have f769 := (pair_mono f728 E754.mono)
  have f773 := (pair_mono f753 E754.mono)
  have e777 : g754 3 = (.bool false) := E754.facts 3 (by decide)
  refine then_normal ?_
  refine wp_cond_false e777 ?_
  refine wp_skip ?_
  refine then_normal ?_
  refine wp_seq ?_
  refine wp_seq ?_
  have HB : w.heap.size ≤ v754.heap.size := T755.size
  refine wp_plan_any [.val (.is (.int .i64 0)), .val (.is (.bool false)), .val (.is (.bool false)), .val (.pair (.cz (rn (p * p1) (q * q1))) (.cz (rd (p * p1) (q * q1)))), .val (.pair (.az 1048576 p) (.az 1048576 q)), .val (.pair (.az 1048576 p1) (.az 1048576 q1)), .val (.pair (.cz (rn (p * p1) (q * q1))) (.cz (rd (p * p1) (q * q1)))), .val (.is (.bool true)), .val (.is (.bool false)), .val (.is (.bool false))] [] [] w.heap.size (by kernel_rfl) (by kernel_rfl) (by kernel_rfl) trivial HB ?_ ?_
  · exact ⟨fun s v h => does_val rfl rfl (x_move) ((h.same 6 rfl).trans e695),
      fun s v h => does_val rfl rfl (x_neq_err (h.dep 0 rfl) rfl) rfl,
      fun s v h => does_val rfl rfl (x_move) (h.dep 1 rfl),
      fun s v h => does_val rfl (wanted_by (b := false) (want := false) rfl rfl (h.dep 2 rfl)) (x_load_r ((h.same 5 rfl).trans p697) ((h.far q696 b762.lt (by simp)).trans b762)) (pair_mono f769 ((Mono.drew _).trans h.mono)),
      fun s v h => does_val rfl (wanted_by (b := false) (want := false) rfl rfl (h.dep 2 rfl)) (x_load_r ((h.same 2 rfl).trans p671) ((h.far q670 b760.lt (by simp)).trans b760)) (pair_mono f764 ((Mono.drew _).trans h.mono)),
      fun s v h => does_val rfl (wanted_by (b := false) (want := false) rfl rfl (h.dep 2 rfl)) (x_load_r ((h.same 3 rfl).trans p677) ((h.far q676 b761.lt (by simp)).trans b761)) (pair_mono f765 ((Mono.drew _).trans h.mono)),
      fun s v h => does_call rfl (wanted_by (b := false) (want := false) rfl rfl (h.dep 2 rfl)) (x_call2 Try.call29) (r3mul_k (h.dep 4 rfl) (h.dep 5 rfl) (by omega) (by omega) hq0 hq1),
      fun s v h => does_call rfl (wanted_by (b := false) (want := false) rfl rfl (h.dep 2 rfl)) (x_call2 Try.call15) (lsame_k (h.dep 3 rfl) (h.dep 6 rfl) rfl rfl),
      fun s v h => does_val rfl (wanted_by (b := false) (want := false) rfl rfl (h.dep 2 rfl)) (x_not (h.dep 7 rfl)) rfl,
      fun s v h => does_val rfl rfl (x_pick (h.dep 2 rfl)) (h.dep 8 rfl), trivial⟩
  intro g778 ts v778 hts E778
  simp only [fillL, Nat.reduceAdd, List.setIfInBounds_toArray, List.set_cons_zero, List.set_cons_succ] at hts
  subst hts
  have T779 : Below w.heap.size w v778 := (below_toDrew T755).trans E778.below
  have l780 : q670 < v754.heap.size := b760.lt
  have l781 : q676 < v754.heap.size := b761.lt
  have l782 : q696 < v754.heap.size := b762.lt
  have l783 : q734 < v754.heap.size := b763.lt
  have b784 : Bx v778 q670 29 #[.bool na0, .slice A0 n0 c0, .bool nb0, .slice B0 m0 d0] := (E778.far q670 b760.lt (by simp)).trans b760
  have b785 : Bx v778 q676 29 #[.bool na1, .slice A1 n1 c1, .bool nb1, .slice B1 m1 d1] := (E778.far q676 b761.lt (by simp)).trans b761
  have b786 : Bx v778 q696 t703 #[.bool x705, .slice A706 m707 c708, .bool x709, .slice A710 m711 c712] := (E778.far q696 b762.lt (by simp)).trans b762
  have b787 : Bx v778 q734 t742 #[.bool x744, .slice A745 m746 c747, .bool x748, .slice A749 m750 c751] := (E778.far q734 b763.lt (by simp)).trans b763
  have f788 := (pair_mono f764 ((Mono.drew _).trans E778.mono))
  have f789 := (pair_mono f765 ((Mono.drew _).trans E778.mono))
  have f797 := (pair_mono f773 ((Mono.drew _).trans E778.mono))
  have e809 : g778 9 = (.bool false) := E778.facts 9 (by decide)
  refine then_normal ?_
  refine wp_cond_false e809 ?_
  refine wp_skip ?_
  refine then_normal ?_
  refine wp_seq ?_
  refine wp_seq ?_
  have HB : w.heap.size ≤ v778.heap.size := T779.size
  refine wp_plan_seq [.val (.is (.pointer (some ⟨q676, 0, none⟩))), .val (.az 1048576 p1), .val (.is (.int .i64 p1.sign)), .val (.is (.bool false))] [] [] w.heap.size (by kernel_rfl) (by kernel_rfl) trivial HB ?_ ?_
  · exact ⟨fun s v h => does_val rfl rfl (x_fld_r0 ((h.same 3 rfl).trans p677)) rfl,
      fun s v h => does_val rfl rfl (x_load_r0 (h.dep 0 rfl) ((h.far q676 b785.lt (by simp)).trans b785)) (pair_fst (pair_mono f789 h.mono)),
      fun s v h => does_call rfl rfl (x_call1 Try.call14) (r2sign_k (h.dep 1 rfl) (by omega)),
      fun s v h => does_val rfl rfl (x_eql_int (h.dep 2 rfl) rfl) (congrArg Value.bool dn), trivial⟩
  intro g810 ts v810 hts E810
  simp only [fillL, Nat.reduceAdd, List.setIfInBounds_toArray, List.set_cons_zero, List.set_cons_succ] at hts
  subst hts
  have T811 : Below w.heap.size w v810 := T779.trans E810.below
  have l812 : q670 < v778.heap.size := b784.lt
  have l813 : q676 < v778.heap.size := b785.lt
  have l814 : q696 < v778.heap.size := b786.lt
  have l815 : q734 < v778.heap.size := b787.lt
  have b816 : Bx v810 q670 29 #[.bool na0, .slice A0 n0 c0, .bool nb0, .slice B0 m0 d0] := (E810.far q670 b784.lt (by simp)).trans b784
  have b817 : Bx v810 q676 29 #[.bool na1, .slice A1 n1 c1, .bool nb1, .slice B1 m1 d1] := (E810.far q676 b785.lt (by simp)).trans b785
  have b818 : Bx v810 q696 t703 #[.bool x705, .slice A706 m707 c708, .bool x709, .slice A710 m711 c712] := (E810.far q696 b786.lt (by simp)).trans b786
  have b819 : Bx v810 q734 t742 #[.bool x744, .slice A745 m746 c747, .bool x748, .slice A749 m750 c751] := (E810.far q734 b787.lt (by simp)).trans b787
  have f820 := (pair_mono f788 E810.mono)
  have f821 := (pair_mono f789 E810.mono)
  have f829 := (pair_mono f797 E810.mono)
  have e838 : g810 3 = (.bool false) := E810.facts 3 (by decide)
  refine then_normal ?_
  refine wp_cond_false e838 ?_
  refine wp_skip ?_
  refine then_normal ?_
  refine wp_seq ?_
  have HB : w.heap.size ≤ v810.heap.size := T811.size
  refine wp_plan_any [.val (.is (.int .i64 0)), .val (.is (.bool true)), .val (.is (.bool true)), .val (.pair (.cz (rn (p * q1) (q * p1))) (.cz (rd (p * q1) (q * p1)))), .val (.pair (.az 1048576 p) (.az 1048576 q)), .val (.pair (.az 1048576 p1) (.az 1048576 q1)), .val (.pair (.cz (rn (p * q1) (q * p1))) (.cz (rd (p * q1) (q * p1)))), .val (.is (.bool true)), .val (.is (.bool true)), .val (.is (.bool true)), .val (.is (.bool true)), .val (.is (.bool true)), .val (.is (.bool true))] [] [] w.heap.size (by kernel_rfl) (by kernel_rfl) (by kernel_rfl) trivial HB ?_ ?_
  · exact ⟨fun s v h => does_val rfl rfl (x_move) ((h.same 8 rfl).trans e733),
      fun s v h => does_val rfl rfl (x_eql_err (h.dep 0 rfl) rfl) rfl,
      fun s v h => does_val rfl rfl (x_move) (h.dep 1 rfl),
      fun s v h => does_val rfl (wanted_by (b := true) (want := true) rfl rfl (h.dep 2 rfl)) (x_load_r ((h.same 7 rfl).trans p735) ((h.far q734 b819.lt (by simp)).trans b819)) (pair_mono f829 ((Mono.drew _).trans h.mono)),
      fun s v h => does_val rfl (wanted_by (b := true) (want := true) rfl rfl (h.dep 2 rfl)) (x_load_r ((h.same 2 rfl).trans p671) ((h.far q670 b816.lt (by simp)).trans b816)) (pair_mono f820 ((Mono.drew _).trans h.mono)),
      fun s v h => does_val rfl (wanted_by (b := true) (want := true) rfl rfl (h.dep 2 rfl)) (x_load_r ((h.same 3 rfl).trans p677) ((h.far q676 b817.lt (by simp)).trans b817)) (pair_mono f821 ((Mono.drew _).trans h.mono)),
      fun s v h => does_call rfl (wanted_by (b := true) (want := true) rfl rfl (h.dep 2 rfl)) (x_call2 Try.call30) (r3div_k (h.dep 4 rfl) (h.dep 5 rfl) (by omega) (by omega) hq0 hq1 hn),
      fun s v h => does_call rfl (wanted_by (b := true) (want := true) rfl rfl (h.dep 2 rfl)) (x_call2 Try.call15) (lsame_k (h.dep 3 rfl) (h.dep 6 rfl) rfl rfl),
      fun s v h => does_val rfl rfl (x_pick (h.dep 2 rfl)) (h.dep 7 rfl),
      fun s v h => does_val rfl rfl (x_move) (h.dep 8 rfl),
      fun s v h => does_call rfl (wanted_by (b := true) (want := true) rfl rfl (h.dep 9 rfl)) (x_call0 Try.call16) (lawake_k),
      fun s v h => does_val rfl rfl (x_pick (h.dep 9 rfl)) (h.dep 10 rfl),
      fun s v h => does_val rfl rfl (x_assign) (h.dep 11 rfl), trivial⟩
  intro g839 ts v839 hts E839
  simp only [fillL, Nat.reduceAdd, List.setIfInBounds_toArray, List.set_cons_zero, List.set_cons_succ] at hts
  subst hts
  have T840 : Below w.heap.size w v839 := (below_toDrew T811).trans E839.below
  have l841 : q670 < v810.heap.size := b816.lt
  have l842 : q676 < v810.heap.size := b817.lt
  have l843 : q696 < v810.heap.size := b818.lt
  have l844 : q734 < v810.heap.size := b819.lt
  have e878 : g839 12 = (.bool true) := E839.facts 12 (by decide)
  refine then_normal ?_
  refine wp_ret ?_
  exact bodyPost_ret (results_tmp (t := 4) rfl _ _ _) rfl ⟨_, rfl, e878, T840⟩

set_option maxHeartbeats 4000000 in
set_option maxRecDepth 8000 in
theorem rp_z {w : World} {x : Value} {p q : Int} (h0 : Rz 1048576 w x p q) {y : Value} {p1 q1 : Int} (h1 : Rz 1048576 w y p1 q1) (hp : 0 < q) (hp1 : 0 < q1) (db : (decide (0 < q.sign) && decide (0 < q1.sign)) = true) (dn : (p1.sign == 0) = true)  : Calls Try.prog 7 #[x, y] w (Ret (.is (.bool true)) w) := by
  obtain ⟨na0, A0, n0, c0, nb0, B0, m0, d0, e0r, hx0, hy0⟩ := Rz.parts h0
  subst e0r
  have la0 := hx0.len
  have lb0 := hy0.len
  obtain ⟨na1, A1, n1, c1, nb1, B1, m1, d1, e1r, hx1, hy1⟩ := Rz.parts h1
  subst e1r
  have la1 := hx1.len
  have lb1 := hy1.len
  have hq0 : q ≠ 0 := by omega
  have hq1 : q1 ≠ 0 := by omega
  have T0 : Below w.heap.size w w := Below.refl _ _
  go_enter Try.func7, Try.ntmps7
  refine wp_seq ?_
  have HB : w.heap.size ≤ w.heap.size := T0.size
  refine wp_plan_seq [.new 4 (some (29, #[.bool na0, .slice A0 n0 c0, .bool nb0, .slice B0 m0 d0])), .new 4 (some (29, #[.bool na1, .slice A1 n1 c1, .bool nb1, .slice B1 m1 d1])), .val (.is (.bool false))] [] [] w.heap.size (by kernel_rfl) (by kernel_rfl) trivial HB ?_ ?_
  · exact ⟨fun s v h => does_new rfl rfl (x_box_r (h.same 0 rfl)) (okr _ _ _ _ _ _ _ _) rfl (.inr rfl),
      fun s v h => does_new rfl rfl (x_box_r (h.same 1 rfl)) (okr _ _ _ _ _ _ _ _) rfl (.inr rfl),
      fun s v h => does_val rfl rfl (x_assign) rfl, trivial⟩
  intro g879 ts v879 hts E879
  simp only [fillL, Nat.reduceAdd, List.setIfInBounds_toArray, List.set_cons_zero, List.set_cons_succ] at hts
  subst hts
  have T880 : Below w.heap.size w v879 := T0.trans E879.below
  have f881 := (pair_mono h0 E879.mono)
  have f882 := (pair_mono h1 E879.mono)
  obtain ⟨q884, p885, l886, o887, b888⟩ : ∃ q, g879 0 = .pointer (some ⟨q, 0, none⟩) ∧ w.heap.size ≤ q ∧ OkB v879 q 4 ∧ Bx v879 q 29 #[.bool na0, .slice A0 n0 c0, .bool nb0, .slice B0 m0 d0] := E879.facts 0 (by decide)
  have h889 : w.heap.size ≤ q884 := Nat.le_trans HB l886
  obtain ⟨q890, p891, l892, o893, b894⟩ : ∃ q, g879 1 = .pointer (some ⟨q, 0, none⟩) ∧ w.heap.size ≤ q ∧ OkB v879 q 4 ∧ Bx v879 q 29 #[.bool na1, .slice A1 n1 c1, .bool nb1, .slice B1 m1 d1] := E879.facts 1 (by decide)
  have h895 : w.heap.size ≤ q890 := Nat.le_trans HB l892
  refine then_normal ?_
  refine wp_seq ?_
  have HB : w.heap.size ≤ v879.heap.size := T880.size
  refine wp_plan_seq [.val (.pair (.az 1048576 p) (.az 1048576 q)), .val (.pair (.az 1048576 p1) (.az 1048576 q1)), .val (.tup2 (.pair (.cz (rn (p * p1) (q * q1))) (.cz (rd (p * p1) (q * q1)))) (.is (.int .i64 0))), .val (.tup2 (.pair (.cz (rn (p * p1) (q * q1))) (.cz (rd (p * p1) (q * q1)))) (.is (.int .i64 0))), .val (.pair (.cz (rn (p * p1) (q * q1))) (.cz (rd (p * p1) (q * q1)))), .val (.is (.int .i64 0)), .new 4 none, .put 5 13, .val (.is (.int .i64 0))] [] [] w.heap.size (by kernel_rfl) (by kernel_rfl) trivial HB ?_ ?_
  · exact ⟨fun s v h => does_val rfl rfl (x_load_r ((h.same 2 rfl).trans p885) ((h.far q884 b888.lt (by simp)).trans b888)) (pair_mono f881 h.mono),
      fun s v h => does_val rfl rfl (x_load_r ((h.same 3 rfl).trans p891) ((h.far q890 b894.lt (by simp)).trans b894)) (pair_mono f882 h.mono),
      fun s v h => does_call rfl rfl (x_call2 Try.call27) (qmul_k (h.dep 0 rfl) (h.dep 1 rfl) (by omega) (by omega) hq0 hq1 (dv_of hp hp1)),
      fun s v h => does_val rfl rfl (x_move) (h.dep 2 rfl),
      fun s v h => by obtain ⟨r0, r1, e, f0, f1⟩ := tup2_at (h.dep 3 rfl); exact does_val rfl rfl (x_ext e rfl) f0,
      fun s v h => by obtain ⟨r0, r1, e, f0, f1⟩ := tup2_at (h.dep 3 rfl); exact does_val rfl rfl (x_ext e rfl) f1,
      fun s v h => does_new rfl rfl x_alloc_r (okr _ _ _ _ _ _ _ _) rfl (.inl rfl),
      fun s v h => by obtain ⟨q, e1, e2, e3⟩ := new_at (h.dep 6 rfl); exact does_put_r rfl rfl e1 (pair_shape (num_cz _) (num_cz _) (h.dep 4 rfl)) e3 (Nat.le_trans HB e2),
      fun s v h => does_val rfl rfl (x_assign) (h.dep 5 rfl), trivial⟩
  intro g897 ts v897 hts E897
  simp only [fillL, Nat.reduceAdd, List.setIfInBounds_toArray, List.set_cons_zero, List.set_cons_succ] at hts
  subst hts
  have T898 : Below w.heap.size w v897 := T880.trans E897.below
  have l899 : q884 < v879.heap.size := b888.lt
  have l900 : q890 < v879.heap.size := b894.lt
  have b901 : Bx v897 q884 29 #[.bool na0, .slice A0 n0 c0, .bool nb0, .slice B0 m0 d0] := (E897.far q884 b888.lt (by simp)).trans b888
  have b902 : Bx v897 q890 29 #[.bool na1, .slice A1 n1 c1, .bool nb1, .slice B1 m1 d1] := (E897.far q890 b894.lt (by simp)).trans b894
  have f903 := (pair_mono f881 E897.mono)
  have f904 := (pair_mono f882 E897.mono)
  have f907 : ((.pair (.cz (rn (p * p1) (q * q1))) (.cz (rd (p * p1) (q * q1)))) : Known).p v897 (g897 4) := E897.facts 4 (by decide)
  have e909 : g897 8 = (.int .i64 0) := E897.facts 8 (by decide)
  obtain ⟨q910, p911, l912, o913⟩ : ∃ q, g897 6 = .pointer (some ⟨q, 0, none⟩) ∧ v879.heap.size ≤ q ∧ OkB v897 q 4 := E897.facts 6 (by decide)
  have h914 : w.heap.size ≤ q910 := Nat.le_trans HB l912
  obtain ⟨t917, x919, A920, m921, c922, x923, A924, m925, c926, e927, b918⟩ := put_info4 (E897.facts 7 (by decide)) p911 (pair_shape (num_cz _) (num_cz _) f907)
  have f928 : ((.pair (.cz (rn (p * p1) (q * q1))) (.cz (rd (p * p1) (q * q1)))) : Known).p v897 (.agg #[.bool x919, .slice A920 m921 c922, .bool x923, .slice A924 m925 c926]) := pair_at f907 e927.symm
  refine then_normal ?_
  refine wp_seq ?_
  have HB : w.heap.size ≤ v897.heap.size := T898.size
  refine wp_plan_seq [.val (.pair (.az 1048576 p) (.az 1048576 q)), .val (.pair (.az 1048576 p1) (.az 1048576 q1)), .val (.tup2 (.pair (.cz 0) (.cz 0)) (.is (.int .i64 11))), .val (.tup2 (.pair (.cz 0) (.cz 0)) (.is (.int .i64 11))), .val (.pair (.cz 0) (.cz 0)), .val (.is (.int .i64 11)), .new 4 none, .put 7 19, .val (.is (.int .i64 11))] [] [] w.heap.size (by kernel_rfl) (by kernel_rfl) trivial HB ?_ ?_
  · exact ⟨fun s v h => does_val rfl rfl (x_load_r ((h.same 2 rfl).trans p885) ((h.far q884 b901.lt (by simp)).trans b901)) (pair_mono f903 h.mono),
      fun s v h => does_val rfl rfl (x_load_r ((h.same 3 rfl).trans p891) ((h.far q890 b902.lt (by simp)).trans b902)) (pair_mono f904 h.mono),
      fun s v h => does_call rfl rfl (x_call2 Try.call28) (qdiv_z (h.dep 0 rfl) (h.dep 1 rfl) (dv_of hp hp1) dn),
      fun s v h => does_val rfl rfl (x_move) (h.dep 2 rfl),
      fun s v h => by obtain ⟨r0, r1, e, f0, f1⟩ := tup2_at (h.dep 3 rfl); exact does_val rfl rfl (x_ext e rfl) f0,
      fun s v h => by obtain ⟨r0, r1, e, f0, f1⟩ := tup2_at (h.dep 3 rfl); exact does_val rfl rfl (x_ext e rfl) f1,
      fun s v h => does_new rfl rfl x_alloc_r (okr _ _ _ _ _ _ _ _) rfl (.inl rfl),
      fun s v h => by obtain ⟨q, e1, e2, e3⟩ := new_at (h.dep 6 rfl); exact does_put_r rfl rfl e1 (pair_shape (num_cz _) (num_cz _) (h.dep 4 rfl)) e3 (Nat.le_trans HB e2),
      fun s v h => does_val rfl rfl (x_assign) (h.dep 5 rfl), trivial⟩
  intro g929 ts v929 hts E929
  simp only [fillL, Nat.reduceAdd, List.setIfInBounds_toArray, List.set_cons_zero, List.set_cons_succ] at hts
  subst hts
  have T930 : Below w.heap.size w v929 := T898.trans E929.below
  have l931 : q884 < v897.heap.size := b901.lt
  have l932 : q890 < v897.heap.size := b902.lt
  have l933 : q910 < v897.heap.size := b918.lt
  have b934 : Bx v929 q884 29 #[.bool na0, .slice A0 n0 c0, .bool nb0, .slice B0 m0 d0] := (E929.far q884 b901.lt (by simp)).trans b901
  have b935 : Bx v929 q890 29 #[.bool na1, .slice A1 n1 c1, .bool nb1, .slice B1 m1 d1] := (E929.far q890 b902.lt (by simp)).trans b902
  have b936 : Bx v929 q910 t917 #[.bool x919, .slice A920 m921 c922, .bool x923, .slice A924 m925 c926] := (E929.far q910 b918.lt (by simp)).trans b918
  have f937 := (pair_mono f903 E929.mono)
  have f938 := (pair_mono f904 E929.mono)
  have f942 := (pair_mono f928 E929.mono)
  have f945 : ((.pair (.cz 0) (.cz 0)) : Known).p v929 (g929 4) := E929.facts 4 (by decide)
  have e947 : g929 8 = (.int .i64 11) := E929.facts 8 (by decide)
  obtain ⟨q948, p949, l950, o951⟩ : ∃ q, g929 6 = .pointer (some ⟨q, 0, none⟩) ∧ v897.heap.size ≤ q ∧ OkB v929 q 4 := E929.facts 6 (by decide)
  have h952 : w.heap.size ≤ q948 := Nat.le_trans HB l950
  obtain ⟨t956, x958, A959, m960, c961, x962, A963, m964, c965, e966, b957⟩ := put_info4 (E929.facts 7 (by decide)) p949 (pair_shape (num_cz _) (num_cz _) f945)
  have f967 : ((.pair (.cz 0) (.cz 0)) : Known).p v929 (.agg #[.bool x958, .slice A959 m960 c961, .bool x962, .slice A963 m964 c965]) := pair_at f945 e966.symm
  refine then_normal ?_
  refine wp_seq ?_
  refine wp_seq ?_
  have HB : w.heap.size ≤ v929.heap.size := T930.size
  refine wp_plan_seq [.val (.pair (.az 1048576 p) (.az 1048576 q)), .val (.pair (.az 1048576 p1) (.az 1048576 q1)), .val (.is (.bool true)), .val (.is (.bool false))] [] [] w.heap.size (by kernel_rfl) (by kernel_rfl) trivial HB ?_ ?_
  · exact ⟨fun s v h => does_val rfl rfl (x_load_r ((h.same 2 rfl).trans p885) ((h.far q884 b934.lt (by simp)).trans b934)) (pair_mono f937 h.mono),
      fun s v h => does_val rfl rfl (x_load_r ((h.same 3 rfl).trans p891) ((h.far q890 b935.lt (by simp)).trans b935)) (pair_mono f938 h.mono),
      fun s v h => does_call rfl rfl (x_call2 Try.call21) (ret_lit db (lboth_k (h.dep 0 rfl) (h.dep 1 rfl) (by omega) (by omega))),
      fun s v h => does_val rfl rfl (x_not (h.dep 2 rfl)) rfl, trivial⟩
  intro g968 ts v968 hts E968
  simp only [fillL, Nat.reduceAdd, List.setIfInBounds_toArray, List.set_cons_zero, List.set_cons_succ] at hts
  subst hts
  have T969 : Below w.heap.size w v968 := T930.trans E968.below
  have l970 : q884 < v929.heap.size := b934.lt
  have l971 : q890 < v929.heap.size := b935.lt
  have l972 : q910 < v929.heap.size := b936.lt
  have l973 : q948 < v929.heap.size := b957.lt
  have b974 : Bx v968 q884 29 #[.bool na0, .slice A0 n0 c0, .bool nb0, .slice B0 m0 d0] := (E968.far q884 b934.lt (by simp)).trans b934
  have b975 : Bx v968 q890 29 #[.bool na1, .slice A1 n1 c1, .bool nb1, .slice B1 m1 d1] := (E968.far q890 b935.lt (by simp)).trans b935
  have b976 : Bx v968 q910 t917 #[.bool x919, .slice A920 m921 c922, .bool x923, .slice A924 m925 c926] := (E968.far q910 b936.lt (by simp)).trans b936
  have b977 : Bx v968 q948 t956 #[.bool x958, .slice A959 m960 c961, .bool x962, .slice A963 m964 c965] := (E968.far q948 b957.lt (by simp)).trans b957
  have f978 := (pair_mono f937 E968.mono)
  have f979 := (pair_mono f938 E968.mono)
  have f983 := (pair_mono f942 E968.mono)
  have f987 := (pair_mono f967 E968.mono)
  have e991 : g968 3 = (.bool false) := E968.facts 3 (by decide)
  refine then_normal ?_
  refine wp_cond_false e991 ?_
  refine wp_skip ?_
  refine then_normal ?_
  refine wp_seq ?_
  refine wp_seq ?_
  have HB : w.heap.size ≤ v968.heap.size := T969.size
  refine wp_plan_any [.val (.is (.int .i64 0)), .val (.is (.bool false)), .val (.is (.bool false)), .val (.pair (.cz (rn (p * p1) (q * q1))) (.cz (rd (p * p1) (q * q1)))), .val (.pair (.az 1048576 p) (.az 1048576 q)), .val (.pair (.az 1048576 p1) (.az 1048576 q1)), .val (.pair (.cz (rn (p * p1) (q * q1))) (.cz (rd (p * p1) (q * q1)))), .val (.is (.bool true)), .val (.is (.bool false)), .val (.is (.bool false))] [] [] w.heap.size (by kernel_rfl) (by kernel_rfl) (by kernel_rfl) trivial HB ?_ ?_
  · exact ⟨fun s v h => does_val rfl rfl (x_move) ((h.same 6 rfl).trans e909),
      fun s v h => does_val rfl rfl (x_neq_err (h.dep 0 rfl) rfl) rfl,
      fun s v h => does_val rfl rfl (x_move) (h.dep 1 rfl),
      fun s v h => does_val rfl (wanted_by (b := false) (want := false) rfl rfl (h.dep 2 rfl)) (x_load_r ((h.same 5 rfl).trans p911) ((h.far q910 b976.lt (by simp)).trans b976)) (pair_mono f983 ((Mono.drew _).trans h.mono)),
      fun s v h => does_val rfl (wanted_by (b := false) (want := false) rfl rfl (h.dep 2 rfl)) (x_load_r ((h.same 2 rfl).trans p885) ((h.far q884 b974.lt (by simp)).trans b974)) (pair_mono f978 ((Mono.drew _).trans h.mono)),
      fun s v h => does_val rfl (wanted_by (b := false) (want := false) rfl rfl (h.dep 2 rfl)) (x_load_r ((h.same 3 rfl).trans p891) ((h.far q890 b975.lt (by simp)).trans b975)) (pair_mono f979 ((Mono.drew _).trans h.mono)),
      fun s v h => does_call rfl (wanted_by (b := false) (want := false) rfl rfl (h.dep 2 rfl)) (x_call2 Try.call29) (r3mul_k (h.dep 4 rfl) (h.dep 5 rfl) (by omega) (by omega) hq0 hq1),
      fun s v h => does_call rfl (wanted_by (b := false) (want := false) rfl rfl (h.dep 2 rfl)) (x_call2 Try.call15) (lsame_k (h.dep 3 rfl) (h.dep 6 rfl) rfl rfl),
      fun s v h => does_val rfl (wanted_by (b := false) (want := false) rfl rfl (h.dep 2 rfl)) (x_not (h.dep 7 rfl)) rfl,
      fun s v h => does_val rfl rfl (x_pick (h.dep 2 rfl)) (h.dep 8 rfl), trivial⟩
  intro g992 ts v992 hts E992
  simp only [fillL, Nat.reduceAdd, List.setIfInBounds_toArray, List.set_cons_zero, List.set_cons_succ] at hts
  subst hts
  have T993 : Below w.heap.size w v992 := (below_toDrew T969).trans E992.below
  have l994 : q884 < v968.heap.size := b974.lt
  have l995 : q890 < v968.heap.size := b975.lt
  have l996 : q910 < v968.heap.size := b976.lt
  have l997 : q948 < v968.heap.size := b977.lt
  have b998 : Bx v992 q884 29 #[.bool na0, .slice A0 n0 c0, .bool nb0, .slice B0 m0 d0] := (E992.far q884 b974.lt (by simp)).trans b974
  have b999 : Bx v992 q890 29 #[.bool na1, .slice A1 n1 c1, .bool nb1, .slice B1 m1 d1] := (E992.far q890 b975.lt (by simp)).trans b975
  have b1000 : Bx v992 q910 t917 #[.bool x919, .slice A920 m921 c922, .bool x923, .slice A924 m925 c926] := (E992.far q910 b976.lt (by simp)).trans b976
  have b1001 : Bx v992 q948 t956 #[.bool x958, .slice A959 m960 c961, .bool x962, .slice A963 m964 c965] := (E992.far q948 b977.lt (by simp)).trans b977
  have f1003 := (pair_mono f979 ((Mono.drew _).trans E992.mono))
  have f1011 := (pair_mono f987 ((Mono.drew _).trans E992.mono))
  have e1023 : g992 9 = (.bool false) := E992.facts 9 (by decide)
  refine then_normal ?_
  refine wp_cond_false e1023 ?_
  refine wp_skip ?_
  refine then_normal ?_
  refine wp_seq ?_
  refine wp_seq ?_
  have HB : w.heap.size ≤ v992.heap.size := T993.size
  refine wp_plan_seq [.val (.is (.pointer (some ⟨q890, 0, none⟩))), .val (.az 1048576 p1), .val (.is (.int .i64 p1.sign)), .val (.is (.bool true))] [] [] w.heap.size (by kernel_rfl) (by kernel_rfl) trivial HB ?_ ?_
  · exact ⟨fun s v h => does_val rfl rfl (x_fld_r0 ((h.same 3 rfl).trans p891)) rfl,
      fun s v h => does_val rfl rfl (x_load_r0 (h.dep 0 rfl) ((h.far q890 b999.lt (by simp)).trans b999)) (pair_fst (pair_mono f1003 h.mono)),
      fun s v h => does_call rfl rfl (x_call1 Try.call14) (r2sign_k (h.dep 1 rfl) (by omega)),
      fun s v h => does_val rfl rfl (x_eql_int (h.dep 2 rfl) rfl) (congrArg Value.bool dn), trivial⟩
  intro g1024 ts v1024 hts E1024
  simp only [fillL, Nat.reduceAdd, List.setIfInBounds_toArray, List.set_cons_zero, List.set_cons_succ] at hts
  subst hts
  have T1025 : Below w.heap.size w v1024 := T993.trans E1024.below
  have l1026 : q884 < v992.heap.size := b998.lt
  have l1027 : q890 < v992.heap.size := b999.lt
  have l1028 : q910 < v992.heap.size := b1000.lt
  have l1029 : q948 < v992.heap.size := b1001.lt
  have b1030 : Bx v1024 q884 29 #[.bool na0, .slice A0 n0 c0, .bool nb0, .slice B0 m0 d0] := (E1024.far q884 b998.lt (by simp)).trans b998
  have b1031 : Bx v1024 q890 29 #[.bool na1, .slice A1 n1 c1, .bool nb1, .slice B1 m1 d1] := (E1024.far q890 b999.lt (by simp)).trans b999
  have b1032 : Bx v1024 q910 t917 #[.bool x919, .slice A920 m921 c922, .bool x923, .slice A924 m925 c926] := (E1024.far q910 b1000.lt (by simp)).trans b1000
  have b1033 : Bx v1024 q948 t956 #[.bool x958, .slice A959 m960 c961, .bool x962, .slice A963 m964 c965] := (E1024.far q948 b1001.lt (by simp)).trans b1001
  have f1043 := (pair_mono f1011 E1024.mono)
  have e1052 : g1024 3 = (.bool true) := E1024.facts 3 (by decide)
  refine then_normal ?_
  refine wp_cond_true e1052 ?_
  refine wp_seq ?_
  have HB : w.heap.size ≤ v1024.heap.size := T1025.size
  refine wp_plan_seq [.val (.is (.int .i64 11)), .val (.is (.bool true)), .val (.is (.bool true)), .val (.pair (.cz 0) (.cz 0)), .val (.is (.agg #[.bool false, .slice none 0 0, .bool false, .slice none 0 0])), .val (.is (.bool true)), .val (.is (.bool true)), .val (.is (.bool true)), .val (.is (.bool true)), .val (.is (.bool true)), .val (.is (.bool true))] [] [] w.heap.size (by kernel_rfl) (by kernel_rfl) trivial HB ?_ ?_
  · exact ⟨fun s v h => does_val rfl rfl (x_move) ((h.same 8 rfl).trans e947),
      fun s v h => does_val rfl rfl (x_eql_err (h.dep 0 rfl) rfl) rfl,
      fun s v h => does_val rfl rfl (x_move) (h.dep 1 rfl),
      fun s v h => does_val rfl (wanted_by (b := true) (want := true) rfl rfl (h.dep 2 rfl)) (x_load_r ((h.same 7 rfl).trans p949) ((h.far q948 b1033.lt (by simp)).trans b1033)) (pair_mono f1043 h.mono),
      fun s v h => does_val rfl (wanted_by (b := true) (want := true) rfl rfl (h.dep 2 rfl)) (x_build_r0) rfl,
      fun s v h => does_call rfl (wanted_by (b := true) (want := true) rfl rfl (h.dep 2 rfl)) (x_call2 Try.call15) (lsame_k (h.dep 3 rfl) (pair_at (rat_zero _) (h.dep 4 rfl)) rfl rfl),
      fun s v h => does_val rfl rfl (x_pick (h.dep 2 rfl)) (h.dep 5 rfl),
      fun s v h => does_val rfl rfl (x_move) (h.dep 6 rfl),
      fun s v h => does_call rfl (wanted_by (b := true) (want := true) rfl rfl (h.dep 7 rfl)) (x_call0 Try.call16) (lawake_k),
      fun s v h => does_val rfl rfl (x_pick (h.dep 7 rfl)) (h.dep 8 rfl),
      fun s v h => does_val rfl rfl (x_assign) (h.dep 9 rfl), trivial⟩
  intro g1053 ts v1053 hts E1053
  simp only [fillL, Nat.reduceAdd, List.setIfInBounds_toArray, List.set_cons_zero, List.set_cons_succ] at hts
  subst hts
  have T1054 : Below w.heap.size w v1053 := T1025.trans E1053.below
  have l1055 : q884 < v1024.heap.size := b1030.lt
  have l1056 : q890 < v1024.heap.size := b1031.lt
  have l1057 : q910 < v1024.heap.size := b1032.lt
  have l1058 : q948 < v1024.heap.size := b1033.lt
  have e1090 : g1053 10 = (.bool true) := E1053.facts 10 (by decide)
  refine then_normal ?_
  refine wp_ret ?_
  exact bodyPost_ret (results_tmp (t := 4) rfl _ _ _) rfl ⟨_, rfl, e1090, T1054⟩

set_option maxHeartbeats 4000000 in
set_option maxRecDepth 8000 in
theorem rp_b {w : World} {x : Value} {p q : Int} (h0 : Rz 1048576 w x p q) {y : Value} {p1 q1 : Int} (h1 : Rz 1048576 w y p1 q1) (db : (decide (0 < q.sign) && decide (0 < q1.sign)) = false) (dv : (decide (q.sign ≤ 0) || decide (q1.sign ≤ 0)) = true)  : Calls Try.prog 7 #[x, y] w (Ret (.is (.bool true)) w) := by
  obtain ⟨na0, A0, n0, c0, nb0, B0, m0, d0, e0r, hx0, hy0⟩ := Rz.parts h0
  subst e0r
  have la0 := hx0.len
  have lb0 := hy0.len
  obtain ⟨na1, A1, n1, c1, nb1, B1, m1, d1, e1r, hx1, hy1⟩ := Rz.parts h1
  subst e1r
  have la1 := hx1.len
  have lb1 := hy1.len
  have T0 : Below w.heap.size w w := Below.refl _ _
  go_enter Try.func7, Try.ntmps7
  refine wp_seq ?_
  have HB : w.heap.size ≤ w.heap.size := T0.size
  refine wp_plan_seq [.new 4 (some (29, #[.bool na0, .slice A0 n0 c0, .bool nb0, .slice B0 m0 d0])), .new 4 (some (29, #[.bool na1, .slice A1 n1 c1, .bool nb1, .slice B1 m1 d1])), .val (.is (.bool false))] [] [] w.heap.size (by kernel_rfl) (by kernel_rfl) trivial HB ?_ ?_
  · exact ⟨fun s v h => does_new rfl rfl (x_box_r (h.same 0 rfl)) (okr _ _ _ _ _ _ _ _) rfl (.inr rfl),
      fun s v h => does_new rfl rfl (x_box_r (h.same 1 rfl)) (okr _ _ _ _ _ _ _ _) rfl (.inr rfl),
      fun s v h => does_val rfl rfl (x_assign) rfl, trivial⟩
  intro g1091 ts v1091 hts E1091
  simp only [fillL, Nat.reduceAdd, List.setIfInBounds_toArray, List.set_cons_zero, List.set_cons_succ] at hts
  subst hts
  have T1092 : Below w.heap.size w v1091 := T0.trans E1091.below
  have f1093 := (pair_mono h0 E1091.mono)
  have f1094 := (pair_mono h1 E1091.mono)
  obtain ⟨q1096, p1097, l1098, o1099, b1100⟩ : ∃ q, g1091 0 = .pointer (some ⟨q, 0, none⟩) ∧ w.heap.size ≤ q ∧ OkB v1091 q 4 ∧ Bx v1091 q 29 #[.bool na0, .slice A0 n0 c0, .bool nb0, .slice B0 m0 d0] := E1091.facts 0 (by decide)
  have h1101 : w.heap.size ≤ q1096 := Nat.le_trans HB l1098
  obtain ⟨q1102, p1103, l1104, o1105, b1106⟩ : ∃ q, g1091 1 = .pointer (some ⟨q, 0, none⟩) ∧ w.heap.size ≤ q ∧ OkB v1091 q 4 ∧ Bx v1091 q 29 #[.bool na1, .slice A1 n1 c1, .bool nb1, .slice B1 m1 d1] := E1091.facts 1 (by decide)
  have h1107 : w.heap.size ≤ q1102 := Nat.le_trans HB l1104
  refine then_normal ?_
  refine wp_seq ?_
  have HB : w.heap.size ≤ v1091.heap.size := T1092.size
  refine wp_plan_seq [.val (.pair (.az 1048576 p) (.az 1048576 q)), .val (.pair (.az 1048576 p1) (.az 1048576 q1)), .val (.tup2 (.pair (.cz 0) (.cz 0)) (.is (.int .i64 30))), .val (.tup2 (.pair (.cz 0) (.cz 0)) (.is (.int .i64 30))), .val (.pair (.cz 0) (.cz 0)), .val (.is (.int .i64 30)), .new 4 none, .put 5 13, .val (.is (.int .i64 30))] [] [] w.heap.size (by kernel_rfl) (by kernel_rfl) trivial HB ?_ ?_
  · exact ⟨fun s v h => does_val rfl rfl (x_load_r ((h.same 2 rfl).trans p1097) ((h.far q1096 b1100.lt (by simp)).trans b1100)) (pair_mono f1093 h.mono),
      fun s v h => does_val rfl rfl (x_load_r ((h.same 3 rfl).trans p1103) ((h.far q1102 b1106.lt (by simp)).trans b1106)) (pair_mono f1094 h.mono),
      fun s v h => does_call rfl rfl (x_call2 Try.call27) (qmul_b (h.dep 0 rfl) (h.dep 1 rfl) dv),
      fun s v h => does_val rfl rfl (x_move) (h.dep 2 rfl),
      fun s v h => by obtain ⟨r0, r1, e, f0, f1⟩ := tup2_at (h.dep 3 rfl); exact does_val rfl rfl (x_ext e rfl) f0,
      fun s v h => by obtain ⟨r0, r1, e, f0, f1⟩ := tup2_at (h.dep 3 rfl); exact does_val rfl rfl (x_ext e rfl) f1,
      fun s v h => does_new rfl rfl x_alloc_r (okr _ _ _ _ _ _ _ _) rfl (.inl rfl),
      fun s v h => by obtain ⟨q, e1, e2, e3⟩ := new_at (h.dep 6 rfl); exact does_put_r rfl rfl e1 (pair_shape (num_cz _) (num_cz _) (h.dep 4 rfl)) e3 (Nat.le_trans HB e2),
      fun s v h => does_val rfl rfl (x_assign) (h.dep 5 rfl), trivial⟩
  intro g1109 ts v1109 hts E1109
  simp only [fillL, Nat.reduceAdd, List.setIfInBounds_toArray, List.set_cons_zero, List.set_cons_succ] at hts
  subst hts
  have T1110 : Below w.heap.size w v1109 := T1092.trans E1109.below
  have l1111 : q1096 < v1091.heap.size := b1100.lt
  have l1112 : q1102 < v1091.heap.size := b1106.lt
  have b1113 : Bx v1109 q1096 29 #[.bool na0, .slice A0 n0 c0, .bool nb0, .slice B0 m0 d0] := (E1109.far q1096 b1100.lt (by simp)).trans b1100
  have b1114 : Bx v1109 q1102 29 #[.bool na1, .slice A1 n1 c1, .bool nb1, .slice B1 m1 d1] := (E1109.far q1102 b1106.lt (by simp)).trans b1106
  have f1115 := (pair_mono f1093 E1109.mono)
  have f1116 := (pair_mono f1094 E1109.mono)
  have f1119 : ((.pair (.cz 0) (.cz 0)) : Known).p v1109 (g1109 4) := E1109.facts 4 (by decide)
  have e1121 : g1109 8 = (.int .i64 30) := E1109.facts 8 (by decide)
  obtain ⟨q1122, p1123, l1124, o1125⟩ : ∃ q, g1109 6 = .pointer (some ⟨q, 0, none⟩) ∧ v1091.heap.size ≤ q ∧ OkB v1109 q 4 := E1109.facts 6 (by decide)
  have h1126 : w.heap.size ≤ q1122 := Nat.le_trans HB l1124
  obtain ⟨t1129, x1131, A1132, m1133, c1134, x1135, A1136, m1137, c1138, e1139, b1130⟩ := put_info4 (E1109.facts 7 (by decide)) p1123 (pair_shape (num_cz _) (num_cz _) f1119)
  have f1140 : ((.pair (.cz 0) (.cz 0)) : Known).p v1109 (.agg #[.bool x1131, .slice A1132 m1133 c1134, .bool x1135, .slice A1136 m1137 c1138]) := pair_at f1119 e1139.symm
  refine then_normal ?_
  refine wp_seq ?_
  have HB : w.heap.size ≤ v1109.heap.size := T1110.size
  refine wp_plan_seq [.val (.pair (.az 1048576 p) (.az 1048576 q)), .val (.pair (.az 1048576 p1) (.az 1048576 q1)), .val (.tup2 (.pair (.cz 0) (.cz 0)) (.is (.int .i64 30))), .val (.tup2 (.pair (.cz 0) (.cz 0)) (.is (.int .i64 30))), .val (.pair (.cz 0) (.cz 0)), .val (.is (.int .i64 30)), .new 4 none, .put 7 19, .val (.is (.int .i64 30))] [] [] w.heap.size (by kernel_rfl) (by kernel_rfl) trivial HB ?_ ?_
  · exact ⟨fun s v h => does_val rfl rfl (x_load_r ((h.same 2 rfl).trans p1097) ((h.far q1096 b1113.lt (by simp)).trans b1113)) (pair_mono f1115 h.mono),
      fun s v h => does_val rfl rfl (x_load_r ((h.same 3 rfl).trans p1103) ((h.far q1102 b1114.lt (by simp)).trans b1114)) (pair_mono f1116 h.mono),
      fun s v h => does_call rfl rfl (x_call2 Try.call28) (qdiv_b (h.dep 0 rfl) (h.dep 1 rfl) dv),
      fun s v h => does_val rfl rfl (x_move) (h.dep 2 rfl),
      fun s v h => by obtain ⟨r0, r1, e, f0, f1⟩ := tup2_at (h.dep 3 rfl); exact does_val rfl rfl (x_ext e rfl) f0,
      fun s v h => by obtain ⟨r0, r1, e, f0, f1⟩ := tup2_at (h.dep 3 rfl); exact does_val rfl rfl (x_ext e rfl) f1,
      fun s v h => does_new rfl rfl x_alloc_r (okr _ _ _ _ _ _ _ _) rfl (.inl rfl),
      fun s v h => by obtain ⟨q, e1, e2, e3⟩ := new_at (h.dep 6 rfl); exact does_put_r rfl rfl e1 (pair_shape (num_cz _) (num_cz _) (h.dep 4 rfl)) e3 (Nat.le_trans HB e2),
      fun s v h => does_val rfl rfl (x_assign) (h.dep 5 rfl), trivial⟩
  intro g1141 ts v1141 hts E1141
  simp only [fillL, Nat.reduceAdd, List.setIfInBounds_toArray, List.set_cons_zero, List.set_cons_succ] at hts
  subst hts
  have T1142 : Below w.heap.size w v1141 := T1110.trans E1141.below
  have l1143 : q1096 < v1109.heap.size := b1113.lt
  have l1144 : q1102 < v1109.heap.size := b1114.lt
  have l1145 : q1122 < v1109.heap.size := b1130.lt
  have b1146 : Bx v1141 q1096 29 #[.bool na0, .slice A0 n0 c0, .bool nb0, .slice B0 m0 d0] := (E1141.far q1096 b1113.lt (by simp)).trans b1113
  have b1147 : Bx v1141 q1102 29 #[.bool na1, .slice A1 n1 c1, .bool nb1, .slice B1 m1 d1] := (E1141.far q1102 b1114.lt (by simp)).trans b1114
  have b1148 : Bx v1141 q1122 t1129 #[.bool x1131, .slice A1132 m1133 c1134, .bool x1135, .slice A1136 m1137 c1138] := (E1141.far q1122 b1130.lt (by simp)).trans b1130
  have f1149 := (pair_mono f1115 E1141.mono)
  have f1150 := (pair_mono f1116 E1141.mono)
  have f1154 := (pair_mono f1140 E1141.mono)
  have f1157 : ((.pair (.cz 0) (.cz 0)) : Known).p v1141 (g1141 4) := E1141.facts 4 (by decide)
  have e1159 : g1141 8 = (.int .i64 30) := E1141.facts 8 (by decide)
  obtain ⟨q1160, p1161, l1162, o1163⟩ : ∃ q, g1141 6 = .pointer (some ⟨q, 0, none⟩) ∧ v1109.heap.size ≤ q ∧ OkB v1141 q 4 := E1141.facts 6 (by decide)
  have h1164 : w.heap.size ≤ q1160 := Nat.le_trans HB l1162
  obtain ⟨t1168, x1170, A1171, m1172, c1173, x1174, A1175, m1176, c1177, e1178, b1169⟩ := put_info4 (E1141.facts 7 (by decide)) p1161 (pair_shape (num_cz _) (num_cz _) f1157)
  have f1179 : ((.pair (.cz 0) (.cz 0)) : Known).p v1141 (.agg #[.bool x1170, .slice A1171 m1172 c1173, .bool x1174, .slice A1175 m1176 c1177]) := pair_at f1157 e1178.symm
  refine then_normal ?_
  refine wp_seq ?_
  refine wp_seq ?_
  have HB : w.heap.size ≤ v1141.heap.size := T1142.size
  refine wp_plan_seq [.val (.pair (.az 1048576 p) (.az 1048576 q)), .val (.pair (.az 1048576 p1) (.az 1048576 q1)), .val (.is (.bool false)), .val (.is (.bool true))] [] [] w.heap.size (by kernel_rfl) (by kernel_rfl) trivial HB ?_ ?_
  · exact ⟨fun s v h => does_val rfl rfl (x_load_r ((h.same 2 rfl).trans p1097) ((h.far q1096 b1146.lt (by simp)).trans b1146)) (pair_mono f1149 h.mono),
      fun s v h => does_val rfl rfl (x_load_r ((h.same 3 rfl).trans p1103) ((h.far q1102 b1147.lt (by simp)).trans b1147)) (pair_mono f1150 h.mono),
      fun s v h => does_call rfl rfl (x_call2 Try.call21) (ret_lit db (lboth_k (h.dep 0 rfl) (h.dep 1 rfl) (by omega) (by omega))),
      fun s v h => does_val rfl rfl (x_not (h.dep 2 rfl)) rfl, trivial⟩
  intro g1180 ts v1180 hts E1180
  simp only [fillL, Nat.reduceAdd, List.setIfInBounds_toArray, List.set_cons_zero, List.set_cons_succ] at hts
  subst hts
  have T1181 : Below w.heap.size w v1180 := T1142.trans E1180.below
  have l1182 : q1096 < v1141.heap.size := b1146.lt
  have l1183 : q1102 < v1141.heap.size := b1147.lt
  have l1184 : q1122 < v1141.heap.size := b1148.lt
  have l1185 : q1160 < v1141.heap.size := b1169.lt
  have b1186 : Bx v1180 q1096 29 #[.bool na0, .slice A0 n0 c0, .bool nb0, .slice B0 m0 d0] := (E1180.far q1096 b1146.lt (by simp)).trans b1146
  have b1187 : Bx v1180 q1102 29 #[.bool na1, .slice A1 n1 c1, .bool nb1, .slice B1 m1 d1] := (E1180.far q1102 b1147.lt (by simp)).trans b1147
  have b1188 : Bx v1180 q1122 t1129 #[.bool x1131, .slice A1132 m1133 c1134, .bool x1135, .slice A1136 m1137 c1138] := (E1180.far q1122 b1148.lt (by simp)).trans b1148
  have b1189 : Bx v1180 q1160 t1168 #[.bool x1170, .slice A1171 m1172 c1173, .bool x1174, .slice A1175 m1176 c1177] := (E1180.far q1160 b1169.lt (by simp)).trans b1169
  have f1195 := (pair_mono f1154 E1180.mono)
  have f1199 := (pair_mono f1179 E1180.mono)
  have e1203 : g1180 3 = (.bool true) := E1180.facts 3 (by decide)
  refine then_normal ?_
  refine wp_cond_true e1203 ?_
  refine wp_seq ?_
  have HB : w.heap.size ≤ v1180.heap.size := T1181.size
  refine wp_plan_seq [.val (.is (.int .i64 30)), .val (.is (.bool true)), .val (.is (.bool true)), .val (.is (.int .i64 30)), .val (.is (.bool true)), .val (.is (.bool true)), .val (.is (.bool true)), .val (.pair (.cz 0) (.cz 0)), .val (.is (.agg #[.bool false, .slice none 0 0, .bool false, .slice none 0 0])), .val (.is (.bool true)), .val (.is (.bool true)), .val (.is (.bool true)), .val (.pair (.cz 0) (.cz 0)), .val (.is (.agg #[.bool false, .slice none 0 0, .bool false, .slice none 0 0])), .val (.is (.bool true)), .val (.is (.bool true)), .val (.is (.bool true)), .val (.is (.bool true)), .val (.is (.bool true)), .val (.is (.bool true))] [] [] w.heap.size (by kernel_rfl) (by kernel_rfl) trivial HB ?_ ?_
  · exact ⟨fun s v h => does_val rfl rfl (x_move) ((h.same 6 rfl).trans e1121),
      fun s v h => does_val rfl rfl (x_eql_err (h.dep 0 rfl) rfl) rfl,
      fun s v h => does_val rfl rfl (x_move) (h.dep 1 rfl),
      fun s v h => does_val rfl (wanted_by (b := true) (want := true) rfl rfl (h.dep 2 rfl)) (x_move) ((h.same 8 rfl).trans e1159),
      fun s v h => does_val rfl (wanted_by (b := true) (want := true) rfl rfl (h.dep 2 rfl)) (x_eql_err (h.dep 3 rfl) rfl) rfl,
      fun s v h => does_val rfl rfl (x_pick (h.dep 2 rfl)) (h.dep 4 rfl),
      fun s v h => does_val rfl rfl (x_move) (h.dep 5 rfl),
      fun s v h => does_val rfl (wanted_by (b := true) (want := true) rfl rfl (h.dep 6 rfl)) (x_load_r ((h.same 5 rfl).trans p1123) ((h.far q1122 b1188.lt (by simp)).trans b1188)) (pair_mono f1195 h.mono),
      fun s v h => does_val rfl (wanted_by (b := true) (want := true) rfl rfl (h.dep 6 rfl)) (x_build_r0) rfl,
      fun s v h => does_call rfl (wanted_by (b := true) (want := true) rfl rfl (h.dep 6 rfl)) (x_call2 Try.call15) (lsame_k (h.dep 7 rfl) (pair_at (rat_zero _) (h.dep 8 rfl)) rfl rfl),
      fun s v h => does_val rfl rfl (x_pick (h.dep 6 rfl)) (h.dep 9 rfl),
      fun s v h => does_val rfl rfl (x_move) (h.dep 10 rfl),
      fun s v h => does_val rfl (wanted_by (b := true) (want := true) rfl rfl (h.dep 11 rfl)) (x_load_r ((h.same 7 rfl).trans p1161) ((h.far q1160 b1189.lt (by simp)).trans b1189)) (pair_mono f1199 h.mono),
      fun s v h => does_val rfl (wanted_by (b := true) (want := true) rfl rfl (h.dep 11 rfl)) (x_build_r0) rfl,
      fun s v h => does_call rfl (wanted_by (b := true) (want := true) rfl rfl (h.dep 11 rfl)) (x_call2 Try.call15) (lsame_k (h.dep 12 rfl) (pair_at (rat_zero _) (h.dep 13 rfl)) rfl rfl),
      fun s v h => does_val rfl rfl (x_pick (h.dep 11 rfl)) (h.dep 14 rfl),
      fun s v h => does_val rfl rfl (x_move) (h.dep 15 rfl),
      fun s v h => does_call rfl (wanted_by (b := true) (want := true) rfl rfl (h.dep 16 rfl)) (x_call0 Try.call16) (lawake_k),
      fun s v h => does_val rfl rfl (x_pick (h.dep 16 rfl)) (h.dep 17 rfl),
      fun s v h => does_val rfl rfl (x_assign) (h.dep 18 rfl), trivial⟩
  intro g1204 ts v1204 hts E1204
  simp only [fillL, Nat.reduceAdd, List.setIfInBounds_toArray, List.set_cons_zero, List.set_cons_succ] at hts
  subst hts
  have T1205 : Below w.heap.size w v1204 := T1181.trans E1204.below
  have l1206 : q1096 < v1180.heap.size := b1186.lt
  have l1207 : q1102 < v1180.heap.size := b1187.lt
  have l1208 : q1122 < v1180.heap.size := b1188.lt
  have l1209 : q1160 < v1180.heap.size := b1189.lt
  have e1245 : g1204 19 = (.bool true) := E1204.facts 19 (by decide)
  refine then_normal ?_
  refine wp_ret ?_
  exact bodyPost_ret (results_tmp (t := 4) rfl _ _ _) rfl ⟨_, rfl, e1245, T1205⟩

theorem ratProducts_law (w : World) (v0 : Value) (x0 : Int × Int) (v1 : Value) (x1 : Int × Int) (s0 : Rz 1048576 w v0 x0.1 x0.2) (s1 : Rz 1048576 w v1 x1.1 x1.2) :
    Calls Try.prog 7 #[v0, v1] w fun e w' => e = .returned (.bool true) ∧ Below w.heap.size w w' := by
  have fin : Calls Try.prog 7 #[v0, v1] w (Ret (.is (.bool true)) w) := by
    obtain ⟨p, q⟩ := x0
    obtain ⟨p1, q1⟩ := x1
    rcases both_ways q q1 with ⟨hp, hp1, db⟩ | ⟨db, dv⟩
    · by_cases hn : p1 = 0
      · exact rp_z s0 s1 hp hp1 db (sign_eq_zero.2 hn)
      · exact rp_a s0 s1 hp hp1 db hn (sgn_nz hn)
    · exact rp_b s0 s1 db dv
  refine fin.mono fun e w' h => ?_
  obtain ⟨r, e, hr, hB⟩ := h
  have hr : r = .bool true := hr
  exact ⟨by rw [e, hr], hB⟩
end Go.Proofs.Ytdmahjbjlppeaaa
