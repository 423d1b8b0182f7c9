
/- The law RatNear. -/
import Derived.Test.YtdmahjbjlppeaaaQ5
namespace Go.Proofs.Ytdmahjbjlppeaaa
open Go.RowKit

theorem ren2 {P : Program} {F : FuncId} {args : Array Value} {w : World} {a b c d : Int} {k : Known} (e1 : a = c) (e2 : b = d) (h : Calls P F args w (Ret (.tup2 (.pair (.cz a) (.cz b)) k) w)) : Calls P F args w (Ret (.tup2 (.pair (.cz c) (.cz d)) k) w) := by
  subst e1 e2
  exact h

set_option maxHeartbeats 4000000 in
set_option maxRecDepth 8000 in
theorem rn_a {w : World} {x : Value} {p q : Int} (h0 : Rz 1048576 w x p q) (hp : 0 < q) (dk : decide (0 < q.sign) = true) {nd dd nr dr : Int} (e1 : rn (((fl (p + p + q) (q + q)) * q) - (p * 1)) (1 * q) = nd) (e2 : rd (((fl (p + p + q) (q + q)) * q) - (p * 1)) (1 * q) = dd) (e3 : rn ((p * 1) - ((fl p q) * q)) (q * 1) = nr) (e4 : rd ((p * 1) - ((fl p q) * q)) (q * 1) = dr) (k1 : decide (((nd * 2) - (1 * dd)).sign ≤ 0) = true) (k2 : decide (0 < ((nd * 2) - ((-1) * dd)).sign) = true) (k3 : decide (0 ≤ ((nr * 1) - (0 * dr)).sign) = true) (k4 : decide (((nr * 2) - (2 * dr)).sign < 0) = true)  : Calls Try.prog 8 #[x] w (Ret (.is (.bool true)) w) := by
  obtain ⟨na0, A0, n0, c0, nb0, B0, m0, d0, e0r, hx0, hy0⟩ := Rz.parts h0
  subst e0r
  have la0 := hx0.len
  have lb0 := hy0.len
  have hq0 : q ≠ 0 := by omega
  have lN : (digs (fl (p + p + q) (q + q)).natAbs).length ≤ 1048580 := near_lenk (K := 1048580) la0 lb0 (by omega) (by omega)
  have lF : (digs (fl p q).natAbs).length ≤ 1048577 := fl_len la0
  have l1 : (digs nd.natAbs).length ≤ 3000000 := by rw [← e1]; exact rn_len (by omega) (len_sub' (n := 3000000) (len_mul lN lb0) (len_mul la0 (show (digs (Int.natAbs 1)).length ≤ 1 from digs_len_le (by decide))) (by omega) (by omega))
  have l2 : (digs dd.natAbs).length ≤ 3000000 := by rw [← e2]; exact Nat.le_trans (rd_len (by omega) (len_mul (show (digs (Int.natAbs 1)).length ≤ 1 from digs_len_le (by decide)) lb0)) (by omega)
  have l3 : (digs nr.natAbs).length ≤ 3000000 := by rw [← e3]; exact rn_len (by omega) (len_sub' (n := 3000000) (len_mul la0 (show (digs (Int.natAbs 1)).length ≤ 1 from digs_len_le (by decide))) (len_mul lF lb0) (by omega) (by omega))
  have l4 : (digs dr.natAbs).length ≤ 3000000 := by rw [← e4]; exact Nat.le_trans (rd_len (by omega) (len_mul lb0 (show (digs (Int.natAbs 1)).length ≤ 1 from digs_len_le (by decide)))) (by omega)
  have pd : 0 < dd := by rw [← e2]; exact rd_pos (by omega)
  have pr : 0 < dr := by rw [← e4]; exact rd_pos (by omega)
  have nd0 : dd ≠ 0 := by omega
  have nr0 : dr ≠ 0 := by omega
  have T0 : Below w.heap.size w w := Below.refl _ _
  go_enter Try.func8, Try.ntmps8
  refine wp_seq ?_
  have HB : w.heap.size ≤ w.heap.size := T0.size
  refine wp_plan_seq [.new 4 (some (29, #[.bool na0, .slice A0 n0 c0, .bool nb0, .slice B0 m0 d0])), .val (.is (.bool false))] [] [] w.heap.size (by kernel_rfl) (by kernel_rfl) trivial HB ?_ ?_
  · exact ⟨fun s v h => does_new rfl rfl (x_box_r (h.same 0 rfl)) (okr _ _ _ _ _ _ _ _) rfl (.inr rfl),
      fun s v h => does_val rfl rfl (x_assign) rfl, trivial⟩
  intro g1597 ts v1597 hts E1597
  simp only [fillL, Nat.reduceAdd, List.setIfInBounds_toArray, List.set_cons_zero, List.set_cons_succ] at hts
  subst hts
  have T1598 : Below w.heap.size w v1597 := T0.trans E1597.below
  have f1599 := (pair_mono h0 E1597.mono)
  obtain ⟨q1601, p1602, l1603, o1604, b1605⟩ : ∃ q, g1597 0 = .pointer (some ⟨q, 0, none⟩) ∧ w.heap.size ≤ q ∧ OkB v1597 q 4 ∧ Bx v1597 q 29 #[.bool na0, .slice A0 n0 c0, .bool nb0, .slice B0 m0 d0] := E1597.facts 0 (by decide)
  have h1606 : w.heap.size ≤ q1601 := Nat.le_trans HB l1603
  refine then_normal ?_
  refine wp_seq ?_
  refine wp_seq ?_
  have HB : w.heap.size ≤ v1597.heap.size := T1598.size
  refine wp_plan_seq [.val (.is (.bool true)), .val (.is (.bool false))] [] [] w.heap.size (by kernel_rfl) (by kernel_rfl) trivial HB ?_ ?_
  · exact ⟨fun s v h => does_call rfl rfl (x_call0 Try.call16) (lawake_k),
      fun s v h => does_val rfl rfl (x_not (h.dep 0 rfl)) rfl, trivial⟩
  intro g1607 ts v1607 hts E1607
  simp only [fillL, Nat.reduceAdd, List.setIfInBounds_toArray, List.set_cons_zero, List.set_cons_succ] at hts
  subst hts
  have T1608 : Below w.heap.size w v1607 := T1598.trans E1607.below
  have l1609 : q1601 < v1597.heap.size := b1605.lt
  have b1610 : Bx v1607 q1601 29 #[.bool na0, .slice A0 n0 c0, .bool nb0, .slice B0 m0 d0] := (E1607.far q1601 b1605.lt (by simp)).trans b1605
  have f1611 := (pair_mono f1599 E1607.mono)
  have e1613 : g1607 1 = (.bool false) := E1607.facts 1 (by decide)
  refine then_normal ?_
  refine wp_cond_false e1613 ?_
  refine wp_skip ?_
  refine then_normal ?_
  refine wp_seq ?_
  refine wp_seq ?_
  have HB : w.heap.size ≤ v1607.heap.size := T1608.size
  refine wp_plan_seq [.val (.pair (.az 1048576 p) (.az 1048576 q)), .val (.is (.bool true)), .val (.is (.bool false))] [] [] w.heap.size (by kernel_rfl) (by kernel_rfl) trivial HB ?_ ?_
  · exact ⟨fun s v h => does_val rfl rfl (x_load_r ((h.same 1 rfl).trans p1602) ((h.far q1601 b1610.lt (by simp)).trans b1610)) (pair_mono f1611 h.mono),
      fun s v h => does_call rfl rfl (x_call1 Try.call31) (ret_lit dk (lok_k (h.dep 0 rfl) (by omega))),
      fun s v h => does_val rfl rfl (x_not (h.dep 1 rfl)) rfl, trivial⟩
  intro g1614 ts v1614 hts E1614
  simp only [fillL, Nat.reduceAdd, List.setIfInBounds_toArray, List.set_cons_zero, List.set_cons_succ] at hts
  subst hts
  have T1615 : Below w.heap.size w v1614 := T1608.trans E1614.below
  have l1616 : q1601 < v1607.heap.size := b1610.lt
  have b1617 : Bx v1614 q1601 29 #[.bool na0, .slice A0 n0 c0, .bool nb0, .slice B0 m0 d0] := (E1614.far q1601 b1610.lt (by simp)).trans b1610
  have f1618 := (pair_mono f1611 E1614.mono)
  have e1621 : g1614 2 = (.bool false) := E1614.facts 2 (by decide)
  refine then_normal ?_
  refine wp_cond_false e1621 ?_
  refine wp_skip ?_
  refine then_normal ?_
  refine wp_seq ?_
  have HB : w.heap.size ≤ v1614.heap.size := T1615.size
  refine wp_plan_seq [.val (.pair (.az 1048576 p) (.az 1048576 q)), .val (.tup2 (.cz (fl (p + p + q) (q + q))) (.is (.int .i64 0))), .val (.tup2 (.cz (fl (p + p + q) (q + q))) (.is (.int .i64 0))), .val (.cz (fl (p + p + q) (q + q))), .val (.is (.int .i64 0)), .new 2 none, .put 3 27, .val (.is (.int .i64 0))] [] [] w.heap.size (by kernel_rfl) (by kernel_rfl) trivial HB ?_ ?_
  · exact ⟨fun s v h => does_val rfl rfl (x_load_r ((h.same 1 rfl).trans p1602) ((h.far q1601 b1617.lt (by simp)).trans b1617)) (pair_mono f1618 h.mono),
      fun s v h => does_call rfl rfl (x_call1 Try.call32) (qnear_k (h.dep 0 rfl) (by omega) hq0 (dv_one hp)),
      fun s v h => does_val rfl rfl (x_move) (h.dep 1 rfl),
      fun s v h => by obtain ⟨r0, r1, e, f0, f1⟩ := tup2_at (h.dep 2 rfl); exact does_val rfl rfl (x_ext e rfl) f0,
      fun s v h => by obtain ⟨r0, r1, e, f0, f1⟩ := tup2_at (h.dep 2 rfl); exact does_val rfl rfl (x_ext e rfl) f1,
      fun s v h => does_new rfl rfl x_alloc_z (okz _ _ _ _) rfl (.inl rfl),
      fun s v h => by obtain ⟨q, e1, e2, e3⟩ := new_at (h.dep 5 rfl); exact does_put_z rfl rfl e1 (h.dep 3 rfl).shape e3 (Nat.le_trans HB e2),
      fun s v h => does_val rfl rfl (x_assign) (h.dep 4 rfl), trivial⟩
  intro g1622 ts v1622 hts E1622
  simp only [fillL, Nat.reduceAdd, List.setIfInBounds_toArray, List.set_cons_zero, List.set_cons_succ] at hts
  subst hts
  have T1623 : Below w.heap.size w v1622 := T1615.trans E1622.below
  have l1624 : q1601 < v1614.heap.size := b1617.lt
  have b1625 : Bx v1622 q1601 29 #[.bool na0, .slice A0 n0 c0, .bool nb0, .slice B0 m0 d0] := (E1622.far q1601 b1617.lt (by simp)).trans b1617
  have f1626 := (pair_mono f1618 E1622.mono)
  have f1629 : Cz v1622 (g1622 3) (fl (p + p + q) (q + q)) := E1622.facts 3 (by decide)
  obtain ⟨q1632, p1633, l1634, o1635⟩ : ∃ q, g1622 5 = .pointer (some ⟨q, 0, none⟩) ∧ v1614.heap.size ≤ q ∧ OkB v1622 q 2 := E1622.facts 5 (by decide)
  have h1636 : w.heap.size ≤ q1632 := Nat.le_trans HB l1634
  obtain ⟨t1638, x1640, A1641, m1642, c1643, e1644, b1639⟩ := put_info (E1622.facts 6 (by decide)) p1633 f1629.shape
  have f1645 : Cz v1622 (.agg #[.bool x1640, .slice A1641 m1642 c1643]) (fl (p + p + q) (q + q)) := f1629.at e1644.symm
  refine then_normal ?_
  refine wp_seq ?_
  have HB : w.heap.size ≤ v1622.heap.size := T1623.size
  refine wp_plan_seq [.val (.pair (.az 1048576 p) (.az 1048576 q)), .val (.tup2 (.cz (fl p q)) (.is (.int .i64 0))), .val (.tup2 (.cz (fl p q)) (.is (.int .i64 0))), .val (.cz (fl p q)), .val (.is (.int .i64 0)), .new 2 none, .put 5 32, .val (.is (.int .i64 0))] [] [] w.heap.size (by kernel_rfl) (by kernel_rfl) trivial HB ?_ ?_
  · exact ⟨fun s v h => does_val rfl rfl (x_load_r ((h.same 1 rfl).trans p1602) ((h.far q1601 b1625.lt (by simp)).trans b1625)) (pair_mono f1626 h.mono),
      fun s v h => does_call rfl rfl (x_call1 Try.call12) (qfloor_k (h.dep 0 rfl) (by omega) hq0 (dv_one hp)),
      fun s v h => does_val rfl rfl (x_move) (h.dep 1 rfl),
      fun s v h => by obtain ⟨r0, r1, e, f0, f1⟩ := tup2_at (h.dep 2 rfl); exact does_val rfl rfl (x_ext e rfl) f0,
      fun s v h => by obtain ⟨r0, r1, e, f0, f1⟩ := tup2_at (h.dep 2 rfl); exact does_val rfl rfl (x_ext e rfl) f1,
      fun s v h => does_new rfl rfl x_alloc_z (okz _ _ _ _) rfl (.inl rfl),
      fun s v h => by obtain ⟨q, e1, e2, e3⟩ := new_at (h.dep 5 rfl); exact does_put_z rfl rfl e1 (h.dep 3 rfl).shape e3 (Nat.le_trans HB e2),
      fun s v h => does_val rfl rfl (x_assign) (h.dep 4 rfl), trivial⟩
  intro g1646 ts v1646 hts E1646
  simp only [fillL, Nat.reduceAdd, List.setIfInBounds_toArray, List.set_cons_zero, List.set_cons_succ] at hts
  subst hts
  have T1647 : Below w.heap.size w v1646 := T1623.trans E1646.below
  have l1648 : q1601 < v1622.heap.size := b1625.lt
  have l1649 : q1632 < v1622.heap.size := b1639.lt
  have b1650 : Bx v1646 q1601 29 #[.bool na0, .slice A0 n0 c0, .bool nb0, .slice B0 m0 d0] := (E1646.far q1601 b1625.lt (by simp)).trans b1625
  have b1651 : Bx v1646 q1632 t1638 #[.bool x1640, .slice A1641 m1642 c1643] := (E1646.far q1632 b1639.lt (by simp)).trans b1639
  have f1652 := (pair_mono f1626 E1646.mono)
  have f1656 := (f1645.mono E1646.mono)
  have f1658 : Cz v1646 (g1646 3) (fl p q) := E1646.facts 3 (by decide)
  obtain ⟨q1661, p1662, l1663, o1664⟩ : ∃ q, g1646 5 = .pointer (some ⟨q, 0, none⟩) ∧ v1622.heap.size ≤ q ∧ OkB v1646 q 2 := E1646.facts 5 (by decide)
  have h1665 : w.heap.size ≤ q1661 := Nat.le_trans HB l1663
  obtain ⟨t1668, x1670, A1671, m1672, c1673, e1674, b1669⟩ := put_info (E1646.facts 6 (by decide)) p1662 f1658.shape
  have f1675 : Cz v1646 (.agg #[.bool x1670, .slice A1671 m1672 c1673]) (fl p q) := f1658.at e1674.symm
  refine then_normal ?_
  refine wp_seq ?_
  have HB : w.heap.size ≤ v1646.heap.size := T1647.size
  refine wp_plan_any [.val (.cz (fl (p + p + q) (q + q))), .val (.pair (.cz (fl (p + p + q) (q + q))) (.cz 1)), .val (.pair (.az 1048576 p) (.az 1048576 q)), .val (.tup2 (.pair (.cz nd) (.cz dd)) (.is (.int .i64 0))), .val (.tup2 (.pair (.cz nd) (.cz dd)) (.is (.int .i64 0))), .val (.pair (.cz nd) (.cz dd)), .val (.is (.int .i64 0)), .new 4 none, .put 7 39, .val (.is (.int .i64 0))] [] [] w.heap.size (by kernel_rfl) (by kernel_rfl) (by kernel_rfl) trivial HB ?_ ?_
  · exact ⟨fun s v h => does_val rfl rfl (x_load_z ((h.same 3 rfl).trans p1633) ((h.far q1632 b1651.lt (by simp)).trans b1651)) (f1656.mono ((Mono.drew _).trans h.mono)),
      fun s v h => does_call rfl rfl (x_call1 Try.call18) (qof_k ((h.dep 0 rfl).az (N := 1048580) (near_lenk (K := 1048580) la0 lb0 (by omega) (by omega)))),
      fun s v h => does_val rfl rfl (x_load_r ((h.same 1 rfl).trans p1602) ((h.far q1601 b1650.lt (by simp)).trans b1650)) (pair_mono f1652 ((Mono.drew _).trans h.mono)),
      fun s v h => does_call rfl rfl (x_call2 Try.call24) ((ren2 e1 e2 (qsub_k (rz_cc (N := 1048580) (h.dep 1 rfl) (near_lenk (K := 1048580) la0 lb0 (by omega) (by omega)) (Nat.le_trans (show (digs (Int.natAbs 1)).length ≤ 1 from digs_len_le (by decide)) (by omega))) (h.dep 2 rfl) (by omega) (by omega) (by decide) hq0 (dv_of (by decide) hp)))),
      fun s v h => does_val rfl rfl (x_move) (h.dep 3 rfl),
      fun s v h => by obtain ⟨r0, r1, e, f0, f1⟩ := tup2_at (h.dep 4 rfl); exact does_val rfl rfl (x_ext e rfl) f0,
      fun s v h => by obtain ⟨r0, r1, e, f0, f1⟩ := tup2_at (h.dep 4 rfl); exact does_val rfl rfl (x_ext e rfl) f1,
      fun s v h => does_new rfl rfl x_alloc_r (okr _ _ _ _ _ _ _ _) rfl (.inl rfl),
      fun s v h => by obtain ⟨q, e1, e2, e3⟩ := new_at (h.dep 7 rfl); exact does_put_r rfl rfl e1 (pair_shape (num_cz _) (num_cz _) (h.dep 5 rfl)) e3 (Nat.le_trans HB e2),
      fun s v h => does_val rfl rfl (x_assign) (h.dep 6 rfl), trivial⟩
  intro g1676 ts v1676 hts E1676
  simp only [fillL, Nat.reduceAdd, List.setIfInBounds_toArray, List.set_cons_zero, List.set_cons_succ] at hts
  subst hts
  have T1677 : Below w.heap.size w v1676 := (below_toDrew T1647).trans E1676.below
  have l1678 : q1601 < v1646.heap.size := b1650.lt
  have l1679 : q1632 < v1646.heap.size := b1651.lt
  have l1680 : q1661 < v1646.heap.size := b1669.lt
  have b1681 : Bx v1676 q1601 29 #[.bool na0, .slice A0 n0 c0, .bool nb0, .slice B0 m0 d0] := (E1676.far q1601 b1650.lt (by simp)).trans b1650
  have b1682 : Bx v1676 q1632 t1638 #[.bool x1640, .slice A1641 m1642 c1643] := (E1676.far q1632 b1651.lt (by simp)).trans b1651
  have b1683 : Bx v1676 q1661 t1668 #[.bool x1670, .slice A1671 m1672 c1673] := (E1676.far q1661 b1669.lt (by simp)).trans b1669
  have f1684 := (pair_mono f1652 ((Mono.drew _).trans E1676.mono))
  have f1691 := (f1675.mono ((Mono.drew _).trans E1676.mono))
  have f1695 : ((.pair (.cz nd) (.cz dd)) : Known).p v1676 (g1676 5) := E1676.facts 5 (by decide)
  have e1697 : g1676 9 = (.int .i64 0) := E1676.facts 9 (by decide)
  obtain ⟨q1698, p1699, l1700, o1701⟩ : ∃ q, g1676 7 = .pointer (some ⟨q, 0, none⟩) ∧ v1646.heap.size ≤ q ∧ OkB v1676 q 4 := E1676.facts 7 (by decide)
  have h1702 : w.heap.size ≤ q1698 := Nat.le_trans HB l1700
  obtain ⟨t1706, x1708, A1709, m1710, c1711, x1712, A1713, m1714, c1715, e1716, b1707⟩ := put_info4 (E1676.facts 8 (by decide)) p1699 (pair_shape (num_cz _) (num_cz _) f1695)
  have f1717 : ((.pair (.cz nd) (.cz dd)) : Known).p v1676 (.agg #[.bool x1708, .slice A1709 m1710 c1711, .bool x1712, .slice A1713 m1714 c1715]) := pair_at f1695 e1716.symm
  refine then_normal ?_
  refine wp_seq ?_
  have HB : w.heap.size ≤ v1676.heap.size := T1677.size
  refine wp_plan_any [.val (.pair (.cz nd) (.cz dd)), .val (.pair (.cz 1) (.cz 2)), .val (.tup2 (.is (.int .i64 ((nd * 2) - (1 * dd)).sign)) (.is (.int .i64 0))), .val (.tup2 (.is (.int .i64 ((nd * 2) - (1 * dd)).sign)) (.is (.int .i64 0))), .val (.is (.int .i64 ((nd * 2) - (1 * dd)).sign)), .val (.is (.int .i64 0)), .val (.is (.int .i64 ((nd * 2) - (1 * dd)).sign)), .val (.is (.int .i64 0))] [] [] w.heap.size (by kernel_rfl) (by kernel_rfl) (by kernel_rfl) trivial HB ?_ ?_
  · exact ⟨fun s v h => does_val rfl rfl (x_load_r ((h.same 7 rfl).trans p1699) ((h.far q1698 b1707.lt (by simp)).trans b1707)) (pair_mono f1717 ((Mono.drew _).trans h.mono)),
      fun s v h => does_call rfl rfl (x_call1 Try.call33) (two_lit rfl (lhalf_k (by decide) (by decide))),
      fun s v h => does_call rfl rfl (x_call2 Try.call20) (qcmp_k (rz_cc (N := 3000000) (h.dep 0 rfl) l1 l2) (rz_cc (N := 1) (h.dep 1 rfl) (show (digs (Int.natAbs 1)).length ≤ 1 from digs_len_le (by decide)) (show (digs (Int.natAbs 2)).length ≤ 1 from digs_len_le (by decide))) (by omega) (by omega) (dv_of pd (by decide))),
      fun s v h => does_val rfl rfl (x_move) (h.dep 2 rfl),
      fun s v h => by obtain ⟨r0, r1, e, f0, f1⟩ := tup2_at (h.dep 3 rfl); exact does_val rfl rfl (x_ext e rfl) f0,
      fun s v h => by obtain ⟨r0, r1, e, f0, f1⟩ := tup2_at (h.dep 3 rfl); exact does_val rfl rfl (x_ext e rfl) f1,
      fun s v h => does_val rfl rfl (x_assign) (h.dep 4 rfl),
      fun s v h => does_val rfl rfl (x_assign) (h.dep 5 rfl), trivial⟩
  intro g1718 ts v1718 hts E1718
  simp only [fillL, Nat.reduceAdd, List.setIfInBounds_toArray, List.set_cons_zero, List.set_cons_succ] at hts
  subst hts
  have T1719 : Below w.heap.size w v1718 := (below_toDrew T1677).trans E1718.below
  have l1720 : q1601 < v1676.heap.size := b1681.lt
  have l1721 : q1632 < v1676.heap.size := b1682.lt
  have l1722 : q1661 < v1676.heap.size := b1683.lt
  have l1723 : q1698 < v1676.heap.size := b1707.lt
  have b1724 : Bx v1718 q1601 29 #[.bool na0, .slice A0 n0 c0, .bool nb0, .slice B0 m0 d0] := (E1718.far q1601 b1681.lt (by simp)).trans b1681
  have b1725 : Bx v1718 q1632 t1638 #[.bool x1640, .slice A1641 m1642 c1643] := (E1718.far q1632 b1682.lt (by simp)).trans b1682
  have b1726 : Bx v1718 q1661 t1668 #[.bool x1670, .slice A1671 m1672 c1673] := (E1718.far q1661 b1683.lt (by simp)).trans b1683
  have b1727 : Bx v1718 q1698 t1706 #[.bool x1708, .slice A1709 m1710 c1711, .bool x1712, .slice A1713 m1714 c1715] := (E1718.far q1698 b1707.lt (by simp)).trans b1707
  have f1728 := (pair_mono f1684 ((Mono.drew _).trans E1718.mono))
  have f1735 := (f1691.mono ((Mono.drew _).trans E1718.mono))
  have f1740 := (pair_mono f1717 ((Mono.drew _).trans E1718.mono))
  have e1745 : g1718 6 = (.int .i64 ((nd * 2) - (1 * dd)).sign) := E1718.facts 6 (by decide)
  have e1746 : g1718 7 = (.int .i64 0) := E1718.facts 7 (by decide)
  refine then_normal ?_
  refine wp_seq ?_
  have HB : w.heap.size ≤ v1718.heap.size := T1719.size
  refine wp_plan_any [.val (.pair (.cz nd) (.cz dd)), .val (.pair (.cz (-1)) (.cz 2)), .val (.tup2 (.is (.int .i64 ((nd * 2) - ((-1) * dd)).sign)) (.is (.int .i64 0))), .val (.tup2 (.is (.int .i64 ((nd * 2) - ((-1) * dd)).sign)) (.is (.int .i64 0))), .val (.is (.int .i64 ((nd * 2) - ((-1) * dd)).sign)), .val (.is (.int .i64 0)), .val (.is (.int .i64 ((nd * 2) - ((-1) * dd)).sign)), .val (.is (.int .i64 0))] [] [] w.heap.size (by kernel_rfl) (by kernel_rfl) (by kernel_rfl) trivial HB ?_ ?_
  · exact ⟨fun s v h => does_val rfl rfl (x_load_r ((h.same 7 rfl).trans p1699) ((h.far q1698 b1727.lt (by simp)).trans b1727)) (pair_mono f1740 ((Mono.drew _).trans h.mono)),
      fun s v h => does_call rfl rfl (x_call1 Try.call33) (two_lit rfl (lhalf_k (by decide) (by decide))),
      fun s v h => does_call rfl rfl (x_call2 Try.call20) (qcmp_k (rz_cc (N := 3000000) (h.dep 0 rfl) l1 l2) (rz_cc (N := 1) (h.dep 1 rfl) (show (digs (Int.natAbs (-1))).length ≤ 1 from digs_len_le (by decide)) (show (digs (Int.natAbs 2)).length ≤ 1 from digs_len_le (by decide))) (by omega) (by omega) (dv_of pd (by decide))),
      fun s v h => does_val rfl rfl (x_move) (h.dep 2 rfl),
      fun s v h => by obtain ⟨r0, r1, e, f0, f1⟩ := tup2_at (h.dep 3 rfl); exact does_val rfl rfl (x_ext e rfl) f0,
      fun s v h => by obtain ⟨r0, r1, e, f0, f1⟩ := tup2_at (h.dep 3 rfl); exact does_val rfl rfl (x_ext e rfl) f1,
      fun s v h => does_val rfl rfl (x_assign) (h.dep 4 rfl),
      fun s v h => does_val rfl rfl (x_assign) (h.dep 5 rfl), trivial⟩
  intro g1747 ts v1747 hts E1747
  simp only [fillL, Nat.reduceAdd, List.setIfInBounds_toArray, List.set_cons_zero, List.set_cons_succ] at hts
  subst hts
  have T1748 : Below w.heap.size w v1747 := (below_toDrew T1719).trans E1747.below
  have l1749 : q1601 < v1718.heap.size := b1724.lt
  have l1750 : q1632 < v1718.heap.size := b1725.lt
  have l1751 : q1661 < v1718.heap.size := b1726.lt
  have l1752 : q1698 < v1718.heap.size := b1727.lt
  have b1753 : Bx v1747 q1601 29 #[.bool na0, .slice A0 n0 c0, .bool nb0, .slice B0 m0 d0] := (E1747.far q1601 b1724.lt (by simp)).trans b1724
  have b1754 : Bx v1747 q1632 t1638 #[.bool x1640, .slice A1641 m1642 c1643] := (E1747.far q1632 b1725.lt (by simp)).trans b1725
  have b1755 : Bx v1747 q1661 t1668 #[.bool x1670, .slice A1671 m1672 c1673] := (E1747.far q1661 b1726.lt (by simp)).trans b1726
  have b1756 : Bx v1747 q1698 t1706 #[.bool x1708, .slice A1709 m1710 c1711, .bool x1712, .slice A1713 m1714 c1715] := (E1747.far q1698 b1727.lt (by simp)).trans b1727
  have f1757 := (pair_mono f1728 ((Mono.drew _).trans E1747.mono))
  have f1764 := (f1735.mono ((Mono.drew _).trans E1747.mono))
  have e1776 : g1747 6 = (.int .i64 ((nd * 2) - ((-1) * dd)).sign) := E1747.facts 6 (by decide)
  have e1777 : g1747 7 = (.int .i64 0) := E1747.facts 7 (by decide)
  refine then_normal ?_
  refine wp_seq ?_
  have HB : w.heap.size ≤ v1747.heap.size := T1748.size
  refine wp_plan_any [.val (.pair (.az 1048576 p) (.az 1048576 q)), .val (.cz (fl p q)), .val (.pair (.cz (fl p q)) (.cz 1)), .val (.tup2 (.pair (.cz nr) (.cz dr)) (.is (.int .i64 0))), .val (.tup2 (.pair (.cz nr) (.cz dr)) (.is (.int .i64 0))), .val (.pair (.cz nr) (.cz dr)), .val (.is (.int .i64 0)), .new 4 none, .put 13 58, .val (.is (.int .i64 0))] [] [] w.heap.size (by kernel_rfl) (by kernel_rfl) (by kernel_rfl) trivial HB ?_ ?_
  · exact ⟨fun s v h => does_val rfl rfl (x_load_r ((h.same 1 rfl).trans p1602) ((h.far q1601 b1753.lt (by simp)).trans b1753)) (pair_mono f1757 ((Mono.drew _).trans h.mono)),
      fun s v h => does_val rfl rfl (x_load_z ((h.same 5 rfl).trans p1662) ((h.far q1661 b1755.lt (by simp)).trans b1755)) (f1764.mono ((Mono.drew _).trans h.mono)),
      fun s v h => does_call rfl rfl (x_call1 Try.call18) (qof_k ((h.dep 1 rfl).az (N := 1048577) (fl_len la0))),
      fun s v h => does_call rfl rfl (x_call2 Try.call24) ((ren2 e3 e4 (qsub_k (h.dep 0 rfl) (rz_cc (N := 1048577) (h.dep 2 rfl) (fl_len la0) (Nat.le_trans (show (digs (Int.natAbs 1)).length ≤ 1 from digs_len_le (by decide)) (by omega))) (by omega) (by omega) hq0 (by decide) (dv_of hp (by decide))))),
      fun s v h => does_val rfl rfl (x_move) (h.dep 3 rfl),
      fun s v h => by obtain ⟨r0, r1, e, f0, f1⟩ := tup2_at (h.dep 4 rfl); exact does_val rfl rfl (x_ext e rfl) f0,
      fun s v h => by obtain ⟨r0, r1, e, f0, f1⟩ := tup2_at (h.dep 4 rfl); exact does_val rfl rfl (x_ext e rfl) f1,
      fun s v h => does_new rfl rfl x_alloc_r (okr _ _ _ _ _ _ _ _) rfl (.inl rfl),
      fun s v h => by obtain ⟨q, e1, e2, e3⟩ := new_at (h.dep 7 rfl); exact does_put_r rfl rfl e1 (pair_shape (num_cz _) (num_cz _) (h.dep 5 rfl)) e3 (Nat.le_trans HB e2),
      fun s v h => does_val rfl rfl (x_assign) (h.dep 6 rfl), trivial⟩
  intro g1778 ts v1778 hts E1778
  simp only [fillL, Nat.reduceAdd, List.setIfInBounds_toArray, List.set_cons_zero, List.set_cons_succ] at hts
  subst hts
  have T1779 : Below w.heap.size w v1778 := (below_toDrew T1748).trans E1778.below
  have l1780 : q1601 < v1747.heap.size := b1753.lt
  have l1781 : q1632 < v1747.heap.size := b1754.lt
  have l1782 : q1661 < v1747.heap.size := b1755.lt
  have l1783 : q1698 < v1747.heap.size := b1756.lt
  have b1784 : Bx v1778 q1601 29 #[.bool na0, .slice A0 n0 c0, .bool nb0, .slice B0 m0 d0] := (E1778.far q1601 b1753.lt (by simp)).trans b1753
  have b1785 : Bx v1778 q1632 t1638 #[.bool x1640, .slice A1641 m1642 c1643] := (E1778.far q1632 b1754.lt (by simp)).trans b1754
  have b1786 : Bx v1778 q1661 t1668 #[.bool x1670, .slice A1671 m1672 c1673] := (E1778.far q1661 b1755.lt (by simp)).trans b1755
  have b1787 : Bx v1778 q1698 t1706 #[.bool x1708, .slice A1709 m1710 c1711, .bool x1712, .slice A1713 m1714 c1715] := (E1778.far q1698 b1756.lt (by simp)).trans b1756
  have f1808 : ((.pair (.cz nr) (.cz dr)) : Known).p v1778 (g1778 5) := E1778.facts 5 (by decide)
  obtain ⟨q1811, p1812, l1813, o1814⟩ : ∃ q, g1778 7 = .pointer (some ⟨q, 0, none⟩) ∧ v1747.heap.size ≤ q ∧ OkB v1778 q 4 := E1778.facts 7 (by decide)
  have h1815 : w.heap.size ≤ q1811 := Nat.le_trans HB l1813
  obtain ⟨t1820, x1822, A1823, m1824, c1825, x1826, A1827, m1828, c1829, e1830, b1821⟩ := put_info4 (E1778.facts 8 (by decide)) p1812 (pair_shape (num_cz _) (num_cz _) f1808)
  have f1831 : ((.pair (.cz nr) (.cz dr)) : Known).p v1778 (.agg #[.bool x1822, .slice A1823 m1824 c1825, .bool x1826, .slice A1827 m1828 c1829]) := pair_at f1808 e1830.symm
  refine then_normal ?_
  refine wp_seq ?_
  have HB : w.heap.size ≤ v1778.heap.size := T1779.size
  refine wp_plan_any [.val (.pair (.cz nr) (.cz dr)), .val (.is (.agg #[.bool false, .slice none 0 0])), .val (.pair (.cz 0) (.cz 1)), .val (.tup2 (.is (.int .i64 ((nr * 1) - (0 * dr)).sign)) (.is (.int .i64 0))), .val (.tup2 (.is (.int .i64 ((nr * 1) - (0 * dr)).sign)) (.is (.int .i64 0))), .val (.is (.int .i64 ((nr * 1) - (0 * dr)).sign)), .val (.is (.int .i64 0)), .val (.is (.int .i64 ((nr * 1) - (0 * dr)).sign)), .val (.is (.int .i64 0))] [] [] w.heap.size (by kernel_rfl) (by kernel_rfl) (by kernel_rfl) trivial HB ?_ ?_
  · exact ⟨fun s v h => does_val rfl rfl (x_load_r ((h.same 13 rfl).trans p1812) ((h.far q1811 b1821.lt (by simp)).trans b1821)) (pair_mono f1831 ((Mono.drew _).trans h.mono)),
      fun s v h => does_val rfl rfl x_build0 rfl,
      fun s v h => does_call rfl rfl (x_call1 Try.call18) (qof_k (Cz.az (N := 0) ((cz_zero _).at (h.dep 1 rfl)) (by simp [digs_zero]))),
      fun s v h => does_call rfl rfl (x_call2 Try.call20) (qcmp_k (rz_cc (N := 3000000) (h.dep 0 rfl) l3 l4) (rz_cc (N := 1) (h.dep 2 rfl) (Nat.le_trans (show (digs (Int.natAbs 0)).length ≤ 0 by simp [digs_zero]) (by omega)) (show (digs (Int.natAbs 1)).length ≤ 1 from digs_len_le (by decide))) (by omega) (by omega) (dv_of pr (by decide))),
      fun s v h => does_val rfl rfl (x_move) (h.dep 3 rfl),
      fun s v h => by obtain ⟨r0, r1, e, f0, f1⟩ := tup2_at (h.dep 4 rfl); exact does_val rfl rfl (x_ext e rfl) f0,
      fun s v h => by obtain ⟨r0, r1, e, f0, f1⟩ := tup2_at (h.dep 4 rfl); exact does_val rfl rfl (x_ext e rfl) f1,
      fun s v h => does_val rfl rfl (x_assign) (h.dep 5 rfl),
      fun s v h => does_val rfl rfl (x_assign) (h.dep 6 rfl), trivial⟩
  intro g1832 ts v1832 hts E1832
  simp only [fillL, Nat.reduceAdd, List.setIfInBounds_toArray, List.set_cons_zero, List.set_cons_succ] at hts
  subst hts
  have T1833 : Below w.heap.size w v1832 := (below_toDrew T1779).trans E1832.below
  have l1834 : q1601 < v1778.heap.size := b1784.lt
  have l1835 : q1632 < v1778.heap.size := b1785.lt
  have l1836 : q1661 < v1778.heap.size := b1786.lt
  have l1837 : q1698 < v1778.heap.size := b1787.lt
  have l1838 : q1811 < v1778.heap.size := b1821.lt
  have b1839 : Bx v1832 q1601 29 #[.bool na0, .slice A0 n0 c0, .bool nb0, .slice B0 m0 d0] := (E1832.far q1601 b1784.lt (by simp)).trans b1784
  have b1840 : Bx v1832 q1632 t1638 #[.bool x1640, .slice A1641 m1642 c1643] := (E1832.far q1632 b1785.lt (by simp)).trans b1785
  have b1841 : Bx v1832 q1661 t1668 #[.bool x1670, .slice A1671 m1672 c1673] := (E1832.far q1661 b1786.lt (by simp)).trans b1786
  have b1842 : Bx v1832 q1698 t1706 #[.bool x1708, .slice A1709 m1710 c1711, .bool x1712, .slice A1713 m1714 c1715] := (E1832.far q1698 b1787.lt (by simp)).trans b1787
  have b1843 : Bx v1832 q1811 t1820 #[.bool x1822, .slice A1823 m1824 c1825, .bool x1826, .slice A1827 m1828 c1829] := (E1832.far q1811 b1821.lt (by simp)).trans b1821
  have f1865 := (pair_mono f1831 ((Mono.drew _).trans E1832.mono))
  have e1871 : g1832 7 = (.int .i64 ((nr * 1) - (0 * dr)).sign) := E1832.facts 7 (by decide)
  have e1872 : g1832 8 = (.int .i64 0) := E1832.facts 8 (by decide)
  refine then_normal ?_
  refine wp_seq ?_
  have HB : w.heap.size ≤ v1832.heap.size := T1833.size
  refine wp_plan_any [.val (.pair (.cz nr) (.cz dr)), .val (.pair (.cz 2) (.cz 2)), .val (.tup2 (.is (.int .i64 ((nr * 2) - (2 * dr)).sign)) (.is (.int .i64 0))), .val (.tup2 (.is (.int .i64 ((nr * 2) - (2 * dr)).sign)) (.is (.int .i64 0))), .val (.is (.int .i64 ((nr * 2) - (2 * dr)).sign)), .val (.is (.int .i64 0)), .val (.is (.int .i64 ((nr * 2) - (2 * dr)).sign)), .val (.is (.int .i64 0))] [] [] w.heap.size (by kernel_rfl) (by kernel_rfl) (by kernel_rfl) trivial HB ?_ ?_
  · exact ⟨fun s v h => does_val rfl rfl (x_load_r ((h.same 13 rfl).trans p1812) ((h.far q1811 b1843.lt (by simp)).trans b1843)) (pair_mono f1865 ((Mono.drew _).trans h.mono)),
      fun s v h => does_call rfl rfl (x_call1 Try.call33) (two_lit rfl (lhalf_k (by decide) (by decide))),
      fun s v h => does_call rfl rfl (x_call2 Try.call20) (qcmp_k (rz_cc (N := 3000000) (h.dep 0 rfl) l3 l4) (rz_cc (N := 1) (h.dep 1 rfl) (show (digs (Int.natAbs 2)).length ≤ 1 from digs_len_le (by decide)) (show (digs (Int.natAbs 2)).length ≤ 1 from digs_len_le (by decide))) (by omega) (by omega) (dv_of pr (by decide))),
      fun s v h => does_val rfl rfl (x_move) (h.dep 2 rfl),
      fun s v h => by obtain ⟨r0, r1, e, f0, f1⟩ := tup2_at (h.dep 3 rfl); exact does_val rfl rfl (x_ext e rfl) f0,
      fun s v h => by obtain ⟨r0, r1, e, f0, f1⟩ := tup2_at (h.dep 3 rfl); exact does_val rfl rfl (x_ext e rfl) f1,
      fun s v h => does_val rfl rfl (x_assign) (h.dep 4 rfl),
      fun s v h => does_val rfl rfl (x_assign) (h.dep 5 rfl), trivial⟩
  intro g1873 ts v1873 hts E1873
  simp only [fillL, Nat.reduceAdd, List.setIfInBounds_toArray, List.set_cons_zero, List.set_cons_succ] at hts
  subst hts
  have T1874 : Below w.heap.size w v1873 := (below_toDrew T1833).trans E1873.below
  have l1875 : q1601 < v1832.heap.size := b1839.lt
  have l1876 : q1632 < v1832.heap.size := b1840.lt
  have l1877 : q1661 < v1832.heap.size := b1841.lt
  have l1878 : q1698 < v1832.heap.size := b1842.lt
  have l1879 : q1811 < v1832.heap.size := b1843.lt
  have b1880 : Bx v1873 q1601 29 #[.bool na0, .slice A0 n0 c0, .bool nb0, .slice B0 m0 d0] := (E1873.far q1601 b1839.lt (by simp)).trans b1839
  have b1881 : Bx v1873 q1632 t1638 #[.bool x1640, .slice A1641 m1642 c1643] := (E1873.far q1632 b1840.lt (by simp)).trans b1840
  have b1882 : Bx v1873 q1661 t1668 #[.bool x1670, .slice A1671 m1672 c1673] := (E1873.far q1661 b1841.lt (by simp)).trans b1841
  have b1883 : Bx v1873 q1698 t1706 #[.bool x1708, .slice A1709 m1710 c1711, .bool x1712, .slice A1713 m1714 c1715] := (E1873.far q1698 b1842.lt (by simp)).trans b1842
  have b1884 : Bx v1873 q1811 t1820 #[.bool x1822, .slice A1823 m1824 c1825, .bool x1826, .slice A1827 m1828 c1829] := (E1873.far q1811 b1843.lt (by simp)).trans b1843
  have e1913 : g1873 6 = (.int .i64 ((nr * 2) - (2 * dr)).sign) := E1873.facts 6 (by decide)
  have e1914 : g1873 7 = (.int .i64 0) := E1873.facts 7 (by decide)
  refine then_normal ?_
  refine wp_seq ?_
  have HB : w.heap.size ≤ v1873.heap.size := T1874.size
  refine wp_plan_seq [.val (.is (.int .i64 0)), .val (.is (.bool true)), .val (.is (.bool true)), .val (.is (.int .i64 0)), .val (.is (.bool true)), .val (.is (.bool true)), .val (.is (.bool true)), .val (.is (.int .i64 0)), .val (.is (.bool true)), .val (.is (.bool true)), .val (.is (.bool true)), .val (.is (.int .i64 0)), .val (.is (.bool true)), .val (.is (.bool true)), .val (.is (.bool true)), .val (.is (.int .i64 0)), .val (.is (.bool true)), .val (.is (.bool true)), .val (.is (.bool true)), .val (.is (.int .i64 ((nd * 2) - (1 * dd)).sign)), .val (.is (.bool true)), .val (.is (.bool true)), .val (.is (.bool true)), .val (.is (.int .i64 ((nd * 2) - ((-1) * dd)).sign)), .val (.is (.bool true)), .val (.is (.bool true)), .val (.is (.bool true)), .val (.is (.int .i64 ((nr * 1) - (0 * dr)).sign)), .val (.is (.bool true)), .val (.is (.bool true)), .val (.is (.bool true)), .val (.is (.int .i64 ((nr * 2) - (2 * dr)).sign)), .val (.is (.bool true)), .val (.is (.bool true)), .val (.is (.bool true))] [] [] w.heap.size (by kernel_rfl) (by kernel_rfl) trivial HB ?_ ?_
  · exact ⟨fun s v h => does_val rfl rfl (x_move) ((h.same 8 rfl).trans e1697),
      fun s v h => does_val rfl rfl (x_eql_err (h.dep 0 rfl) rfl) rfl,
      fun s v h => does_val rfl rfl (x_move) (h.dep 1 rfl),
      fun s v h => does_val rfl (wanted_by (b := true) (want := true) rfl rfl (h.dep 2 rfl)) (x_move) ((h.same 10 rfl).trans e1746),
      fun s v h => does_val rfl (wanted_by (b := true) (want := true) rfl rfl (h.dep 2 rfl)) (x_eql_err (h.dep 3 rfl) rfl) rfl,
      fun s v h => does_val rfl rfl (x_pick (h.dep 2 rfl)) (h.dep 4 rfl),
      fun s v h => does_val rfl rfl (x_move) (h.dep 5 rfl),
      fun s v h => does_val rfl (wanted_by (b := true) (want := true) rfl rfl (h.dep 6 rfl)) (x_move) ((h.same 12 rfl).trans e1777),
      fun s v h => does_val rfl (wanted_by (b := true) (want := true) rfl rfl (h.dep 6 rfl)) (x_eql_err (h.dep 7 rfl) rfl) rfl,
      fun s v h => does_val rfl rfl (x_pick (h.dep 6 rfl)) (h.dep 8 rfl),
      fun s v h => does_val rfl rfl (x_move) (h.dep 9 rfl),
      fun s v h => does_val rfl (wanted_by (b := true) (want := true) rfl rfl (h.dep 10 rfl)) (x_move) ((h.same 16 rfl).trans e1872),
      fun s v h => does_val rfl (wanted_by (b := true) (want := true) rfl rfl (h.dep 10 rfl)) (x_eql_err (h.dep 11 rfl) rfl) rfl,
      fun s v h => does_val rfl rfl (x_pick (h.dep 10 rfl)) (h.dep 12 rfl),
      fun s v h => does_val rfl rfl (x_move) (h.dep 13 rfl),
      fun s v h => does_val rfl (wanted_by (b := true) (want := true) rfl rfl (h.dep 14 rfl)) (x_move) ((h.same 18 rfl).trans e1914),
      fun s v h => does_val rfl (wanted_by (b := true) (want := true) rfl rfl (h.dep 14 rfl)) (x_eql_err (h.dep 15 rfl) rfl) rfl,
      fun s v h => does_val rfl rfl (x_pick (h.dep 14 rfl)) (h.dep 16 rfl),
      fun s v h => does_val rfl rfl (x_move) (h.dep 17 rfl),
      fun s v h => does_val rfl (wanted_by (b := true) (want := true) rfl rfl (h.dep 18 rfl)) (x_move) ((h.same 9 rfl).trans e1745),
      fun s v h => does_val rfl (wanted_by (b := true) (want := true) rfl rfl (h.dep 18 rfl)) (x_leq (h.dep 19 rfl) rfl) (congrArg Value.bool k1),
      fun s v h => does_val rfl rfl (x_pick (h.dep 18 rfl)) (h.dep 20 rfl),
      fun s v h => does_val rfl rfl (x_move) (h.dep 21 rfl),
      fun s v h => does_val rfl (wanted_by (b := true) (want := true) rfl rfl (h.dep 22 rfl)) (x_move) ((h.same 11 rfl).trans e1776),
      fun s v h => does_val rfl (wanted_by (b := true) (want := true) rfl rfl (h.dep 22 rfl)) (x_gtr (h.dep 23 rfl) rfl) (congrArg Value.bool k2),
      fun s v h => does_val rfl rfl (x_pick (h.dep 22 rfl)) (h.dep 24 rfl),
      fun s v h => does_val rfl rfl (x_move) (h.dep 25 rfl),
      fun s v h => does_val rfl (wanted_by (b := true) (want := true) rfl rfl (h.dep 26 rfl)) (x_move) ((h.same 15 rfl).trans e1871),
      fun s v h => does_val rfl (wanted_by (b := true) (want := true) rfl rfl (h.dep 26 rfl)) (x_geq (h.dep 27 rfl) rfl) (congrArg Value.bool k3),
      fun s v h => does_val rfl rfl (x_pick (h.dep 26 rfl)) (h.dep 28 rfl),
      fun s v h => does_val rfl rfl (x_move) (h.dep 29 rfl),
      fun s v h => does_val rfl (wanted_by (b := true) (want := true) rfl rfl (h.dep 30 rfl)) (x_move) ((h.same 17 rfl).trans e1913),
      fun s v h => does_val rfl (wanted_by (b := true) (want := true) rfl rfl (h.dep 30 rfl)) (x_lss (h.dep 31 rfl) rfl) (congrArg Value.bool k4),
      fun s v h => does_val rfl rfl (x_pick (h.dep 30 rfl)) (h.dep 32 rfl),
      fun s v h => does_val rfl rfl (x_assign) (h.dep 33 rfl), trivial⟩
  intro g1915 ts v1915 hts E1915
  simp only [fillL, Nat.reduceAdd, List.setIfInBounds_toArray, List.set_cons_zero, List.set_cons_succ] at hts
  subst hts
  have T1916 : Below w.heap.size w v1915 := T1874.trans E1915.below
  have l1917 : q1601 < v1873.heap.size := b1880.lt
  have l1918 : q1632 < v1873.heap.size := b1881.lt
  have l1919 : q1661 < v1873.heap.size := b1882.lt
  have l1920 : q1698 < v1873.heap.size := b1883.lt
  have l1921 : q1811 < v1873.heap.size := b1884.lt
  have e1987 : g1915 34 = (.bool true) := E1915.facts 34 (by decide)
  refine then_normal ?_
  refine wp_ret ?_
  exact bodyPost_ret (results_tmp (t := 2) rfl _ _ _) rfl ⟨_, rfl, e1987, T1916⟩

set_option maxHeartbeats 4000000 in
set_option maxRecDepth 8000 in
theorem rn_b {w : World} {x : Value} {p q : Int} (h0 : Rz 1048576 w x p q) (dk : decide (0 < q.sign) = false)  : Calls Try.prog 8 #[x] w (Ret (.is (.bool true)) w) := by
  obtain ⟨na0, A0, n0, c0, nb0, B0, m0, d0, e0r, hx0, hy0⟩ := Rz.parts h0
  subst e0r
  have la0 := hx0.len
  have lb0 := hy0.len
  have T0 : Below w.heap.size w w := Below.refl _ _
  go_enter Try.func8, Try.ntmps8
  refine wp_seq ?_
  have HB : w.heap.size ≤ w.heap.size := T0.size
  refine wp_plan_seq [.new 4 (some (29, #[.bool na0, .slice A0 n0 c0, .bool nb0, .slice B0 m0 d0])), .val (.is (.bool false))] [] [] w.heap.size (by kernel_rfl) (by kernel_rfl) trivial HB ?_ ?_
  · exact ⟨fun s v h => does_new rfl rfl (x_box_r (h.same 0 rfl)) (okr _ _ _ _ _ _ _ _) rfl (.inr rfl),
      fun s v h => does_val rfl rfl (x_assign) rfl, trivial⟩
  intro g1988 ts v1988 hts E1988
  simp only [fillL, Nat.reduceAdd, List.setIfInBounds_toArray, List.set_cons_zero, List.set_cons_succ] at hts
  subst hts
  have T1989 : Below w.heap.size w v1988 := T0.trans E1988.below
  have f1990 := (pair_mono h0 E1988.mono)
  obtain ⟨q1992, p1993, l1994, o1995, b1996⟩ : ∃ q, g1988 0 = .pointer (some ⟨q, 0, none⟩) ∧ w.heap.size ≤ q ∧ OkB v1988 q 4 ∧ Bx v1988 q 29 #[.bool na0, .slice A0 n0 c0, .bool nb0, .slice B0 m0 d0] := E1988.facts 0 (by decide)
  have h1997 : w.heap.size ≤ q1992 := Nat.le_trans HB l1994
  refine then_normal ?_
  refine wp_seq ?_
  refine wp_seq ?_
  have HB : w.heap.size ≤ v1988.heap.size := T1989.size
  refine wp_plan_seq [.val (.is (.bool true)), .val (.is (.bool false))] [] [] w.heap.size (by kernel_rfl) (by kernel_rfl) trivial HB ?_ ?_
  · exact ⟨fun s v h => does_call rfl rfl (x_call0 Try.call16) (lawake_k),
      fun s v h => does_val rfl rfl (x_not (h.dep 0 rfl)) rfl, trivial⟩
  intro g1998 ts v1998 hts E1998
  simp only [fillL, Nat.reduceAdd, List.setIfInBounds_toArray, List.set_cons_zero, List.set_cons_succ] at hts
  subst hts
  have T1999 : Below w.heap.size w v1998 := T1989.trans E1998.below
  have l2000 : q1992 < v1988.heap.size := b1996.lt
  have b2001 : Bx v1998 q1992 29 #[.bool na0, .slice A0 n0 c0, .bool nb0, .slice B0 m0 d0] := (E1998.far q1992 b1996.lt (by simp)).trans b1996
  have f2002 := (pair_mono f1990 E1998.mono)
  have e2004 : g1998 1 = (.bool false) := E1998.facts 1 (by decide)
  refine then_normal ?_
  refine wp_cond_false e2004 ?_
  refine wp_skip ?_
  refine then_normal ?_
  refine wp_seq ?_
  refine wp_seq ?_
  have HB : w.heap.size ≤ v1998.heap.size := T1999.size
  refine wp_plan_seq [.val (.pair (.az 1048576 p) (.az 1048576 q)), .val (.is (.bool false)), .val (.is (.bool true))] [] [] w.heap.size (by kernel_rfl) (by kernel_rfl) trivial HB ?_ ?_
  · exact ⟨fun s v h => does_val rfl rfl (x_load_r ((h.same 1 rfl).trans p1993) ((h.far q1992 b2001.lt (by simp)).trans b2001)) (pair_mono f2002 h.mono),
      fun s v h => does_call rfl rfl (x_call1 Try.call31) (ret_lit dk (lok_k (h.dep 0 rfl) (by omega))),
      fun s v h => does_val rfl rfl (x_not (h.dep 1 rfl)) rfl, trivial⟩
  intro g2005 ts v2005 hts E2005
  simp only [fillL, Nat.reduceAdd, List.setIfInBounds_toArray, List.set_cons_zero, List.set_cons_succ] at hts
  subst hts
  have T2006 : Below w.heap.size w v2005 := T1999.trans E2005.below
  have l2007 : q1992 < v1998.heap.size := b2001.lt
  have b2008 : Bx v2005 q1992 29 #[.bool na0, .slice A0 n0 c0, .bool nb0, .slice B0 m0 d0] := (E2005.far q1992 b2001.lt (by simp)).trans b2001
  have e2012 : g2005 2 = (.bool true) := E2005.facts 2 (by decide)
  refine then_normal ?_
  refine wp_cond_true e2012 ?_
  refine wp_seq ?_
  have HB : w.heap.size ≤ v2005.heap.size := T2006.size
  refine wp_plan_seq [.val (.is (.bool true))] [] [] w.heap.size (by kernel_rfl) (by kernel_rfl) trivial HB ?_ ?_
  · exact ⟨fun s v h => does_val rfl rfl (x_assign) rfl, trivial⟩
  intro g2013 ts v2013 hts E2013
  simp only [fillL, List.setIfInBounds_toArray, List.set_cons_zero, List.set_cons_succ] at hts
  subst hts
  have T2014 : Below w.heap.size w v2013 := T2006.trans E2013.below
  have l2015 : q1992 < v2005.heap.size := b2008.lt
  have e2019 : g2013 0 = (.bool true) := E2013.facts 0 (by decide)
  refine then_normal ?_
  refine wp_ret ?_
  exact bodyPost_ret (results_tmp (t := 2) rfl _ _ _) rfl ⟨_, rfl, e2019, T2014⟩

theorem near_facts {p q nd dd nr dr : Int} (hp : 0 < q) (e1 : rn (((fl (p + p + q) (q + q)) * q) - (p * 1)) (1 * q) = nd) (e2 : rd (((fl (p + p + q) (q + q)) * q) - (p * 1)) (1 * q) = dd) (e3 : rn ((p * 1) - ((fl p q) * q)) (q * 1) = nr) (e4 : rd ((p * 1) - ((fl p q) * q)) (q * 1) = dr) :
    decide (((nd * 2) - (1 * dd)).sign ≤ 0) = true ∧ decide (0 < ((nd * 2) - ((-1) * dd)).sign) = true ∧ decide (0 ≤ ((nr * 1) - (0 * dr)).sign) = true ∧ decide (((nr * 2) - (2 * dr)).sign < 0) = true := by
  obtain ⟨a1, a2, _⟩ := r_spec (((fl (p + p + q) (q + q)) * q) - (p * 1)) (q := (1 * q)) (by omega)
  obtain ⟨b1, b2, _⟩ := r_spec ((p * 1) - ((fl p q) * q)) (q := (q * 1)) (by omega)
  rw [e2] at a1 a2
  rw [e1] at a2
  rw [e4] at b1 b2
  rw [e3] at b2
  obtain ⟨f1, f2⟩ := fl_bounds (p := p) hp
  obtain ⟨n1, n2⟩ := fl_bounds (p := p + p + q) (q := q + q) (by omega)
  generalize fl p q = F at *
  generalize fl (p + p + q) (q + q) = N at *
  have x1 : N * (q + q) = N * q + N * q := Int.mul_add ..
  have x2 : (N + 1) * (q + q) = N * q + N * q + q + q := by rw [Int.add_mul, x1]; omega
  have x3 : (F + 1) * q = F * q + q := by rw [Int.add_mul]; omega
  generalize N * q = U at *
  generalize F * q = V at *
  -- nd / dd = (U - p) / q, between - 1/2 and 1/2
  have y1 : nd * 2 - 1 * dd ≤ 0 := by
    have h := Int.mul_le_mul_of_nonneg_right (show 2 * (U - p) - q ≤ 0 by omega) (show 0 ≤ dd by omega)
    have h2 : (nd * 2 - 1 * dd) * q = (2 * (U - p) - q) * dd := by grind
    rcases Int.lt_or_le 0 (nd * 2 - 1 * dd) with h3 | h3
    · have := Int.mul_pos h3 hp; omega
    · exact h3
  have y2 : 0 < nd * 2 - (-1) * dd := by
    have h := Int.mul_pos (show 0 < 2 * (U - p) + q by omega) a1
    have h2 : (nd * 2 - (-1) * dd) * q = (2 * (U - p) + q) * dd := by grind
    rcases Int.lt_or_le 0 (nd * 2 - (-1) * dd) with h3 | h3
    · exact h3
    · have := Int.mul_le_mul_of_nonneg_right h3 (show 0 ≤ q by omega); omega
  have y3 : 0 ≤ nr * 1 - 0 * dr := by
    have h := Int.mul_nonneg (show 0 ≤ p - V by omega) (show 0 ≤ dr by omega)
    have h2 : (nr * 1 - 0 * dr) * q = (p - V) * dr := by grind
    rcases Int.lt_or_le (nr * 1 - 0 * dr) 0 with h3 | h3
    · have := Int.mul_neg_of_neg_of_pos h3 hp; omega
    · exact h3
  have y4 : nr * 2 - 2 * dr < 0 := by
    have h := Int.mul_neg_of_neg_of_pos (show 2 * (p - V) - 2 * q < 0 by omega) b1
    have h2 : (nr * 2 - 2 * dr) * q = (2 * (p - V) - 2 * q) * dr := by grind
    rcases Int.lt_or_le (nr * 2 - 2 * dr) 0 with h3 | h3
    · exact h3
    · have := Int.mul_nonneg h3 (show 0 ≤ q by omega); omega
  exact ⟨(sg_nonpos' y1).1, (sg_pos' y2).2, decide_eq_true (Int.sign_nonneg_iff.2 y3), decide_eq_true (by rw [Int.sign_eq_neg_one_of_neg y4]; decide)⟩

theorem ratNear_law (w : World) (v0 : Value) (x0 : Int × Int) (s0 : Rz 1048576 w v0 x0.1 x0.2) :
    Calls Try.prog 8 #[v0] w fun e w' => e = .returned (.bool true) ∧ Below w.heap.size w w' := by
  have fin : Calls Try.prog 8 #[v0] w (Ret (.is (.bool true)) w) := by
    obtain ⟨p, q⟩ := x0
    rcases one_ways q with ⟨hp, dk⟩ | ⟨dk, dv⟩
    · obtain ⟨k1, k2, k3, k4⟩ := near_facts (p := p) hp rfl rfl rfl rfl
      exact rn_a s0 hp dk rfl rfl rfl rfl k1 k2 k3 k4
    · exact rn_b s0 dk
  refine fin.mono fun e w' h => ?_
  obtain ⟨r, e, hr, hB⟩ := h
  have hr : r = .bool true := hr
  exact ⟨by rw [e, hr], hB⟩
end Go.Proofs.Ytdmahjbjlppeaaa
