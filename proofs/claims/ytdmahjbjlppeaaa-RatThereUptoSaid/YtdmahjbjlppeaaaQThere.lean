
/- The law RatThere. -/
import Derived.Test.YtdmahjbjlppeaaaQ5
import Derived.Test.YtdmahjbjlppeaaaQRead
namespace Go.Proofs.Ytdmahjbjlppeaaa
open Go.RowKit

theorem one47 : (⟨#[47]⟩ : ByteArray).size = 1 := rfl
theorem byteN_appL {a b : ByteArray} {i : Nat} (h : i < a.size) : byteN (a ++ b) i = byteN a i := by
  rw [byteN_at h, byteN_at (by rw [ByteArray.size_append]; omega), ByteArray.getElem_append_left h]
theorem byteN_appR {a b : ByteArray} {i : Nat} (h : i < b.size) : byteN (a ++ b) (a.size + i) = byteN b i := by
  rw [byteN_at h, byteN_at (by rw [ByteArray.size_append]; omega), ByteArray.getElem_append_right (by omega)]
  congr 2
  omega
theorem prefix_of {s : ByteArray} (h : 0 < s.size) : Lib.hasPrefix s.data.toList [45] = decide (byteN s 0 = 45) := by
  rw [byteN_at h]
  obtain ⟨⟨l⟩⟩ := s
  match l, h with
  | x :: l, _ =>
    show List.isPrefixOf [45] (x :: l) = decide (x.toNat = 45)
    simp only [List.isPrefixOf, Bool.and_true]
    rw [Bool.eq_iff_iff, beq_iff_eq, decide_eq_true_iff]
    exact ⟨fun h => by rw [← h]; rfl, fun h => UInt8.toNat_inj.1 h.symm⟩
theorem good_rpos {z : Int} (h : 0 ≤ z) : ∀ j, j < (ztxt z).size → GoodR (ztxt z) 0 j := fun j hj => by
  obtain ⟨a, b, c⟩ := ztxt_pos h
  have c1 := c j hj
  unfold BadF at c1
  unfold GoodR
  by_cases h1 : j = 0
  · omega
  · have c2 := c 1 (by omega)
    unfold BadF at c2
    omega
theorem good_rneg {z : Int} (h : z < 0) : ∀ j, 1 ≤ j → j < (ztxt z).size → GoodR (ztxt z) 1 j := fun j h0 hj => by
  obtain ⟨a, b, c, d⟩ := ztxt_neg h
  have c1 := d j h0 hj
  unfold BadF at c1
  unfold GoodR
  omega
theorem good_sub {s t : ByteArray} {a fr j : Nat} (hf : byteN s (a + fr) = byteN t fr) (hj : byteN s (a + j) = byteN t j) (h : GoodR t fr j) : GoodR s (a + fr) (a + j) := by
  unfold GoodR at *
  rw [hf, hj]
  omega
theorem head_pos {z : Int} (h : 0 < z) : byteN (ztxt z) 0 ≠ 48 := by
  have hd := digT_of (z := z) (by omega)
  rcases hd.head with h1 | h1
  · intro h2
    have e : z = ((dvFrom (ztxt z) 0 (ztxt z).size : Nat) : Int) := ztxt_inj (good_pos hd.pos hd.good)
    rw [h1] at e
    simp [dvFrom, h2] at e
    omega
  · exact h1
/-- What the text of a rational is like, at its two numbers. -/
structure Rt (tx : ByteArray) (n d : Int) : Prop where
  tot : tx.size = (ztxt n).size + 1 + (ztxt d).size
  lo : ∀ j, j < (ztxt n).size → byteN tx j = byteN (ztxt n) j
  mid : byteN tx (ztxt n).size = 47
  hi : ∀ j, j < (ztxt d).size → byteN tx ((ztxt n).size + 1 + j) = byteN (ztxt d) j
theorem app47 (a b : ByteArray) : (a ++ (⟨#[47]⟩ : ByteArray) ++ b).size = a.size + 1 + b.size ∧ (∀ j, j < a.size → byteN (a ++ (⟨#[47]⟩ : ByteArray) ++ b) j = byteN a j) ∧ byteN (a ++ (⟨#[47]⟩ : ByteArray) ++ b) a.size = 47 ∧ ∀ j, j < b.size → byteN (a ++ (⟨#[47]⟩ : ByteArray) ++ b) (a.size + 1 + j) = byteN b j := by
  have hs : (a ++ (⟨#[47]⟩ : ByteArray)).size = a.size + 1 := by rw [ByteArray.size_append, one47]
  refine ⟨by rw [ByteArray.size_append, hs], fun j hj => ?_, ?_, fun j hj => ?_⟩
  · rw [byteN_appL (by omega), byteN_appL hj]
  · rw [byteN_appL (by omega)]
    exact (congrArg (byteN _) (Nat.add_zero a.size).symm).trans (byteN_appR (by rw [one47]; omega))
  · rw [← hs, byteN_appR hj]
theorem rt_of (n d : Int) : Rt (ztxt n ++ (⟨#[47]⟩ : ByteArray) ++ ztxt d) n d :=
  have h := app47 (ztxt n) (ztxt d)
  ⟨h.1, h.2.1, h.2.2.1, h.2.2.2⟩
theorem Rt.left {tx : ByteArray} {n d : Int} (h : Rt tx n d) : tx.extract 0 (ztxt n).size = ztxt n := by
  have := h.tot
  refine byte_ext (by rw [size_cut (by omega)]; omega) fun i hi => ?_
  rw [byteN_cut (by omega) (by omega), Nat.zero_add]
  exact h.lo i hi
theorem Rt.right {tx : ByteArray} {n d : Int} (h : Rt tx n d) : tx.extract ((ztxt n).size + 1) tx.size = ztxt d := by
  have := h.tot
  refine byte_ext (by rw [size_cut (by omega)]; omega) fun i hi => ?_
  rw [byteN_cut (by omega) (by omega)]
  exact h.hi i hi
theorem r_idem {p q : Int} (hq : q ≠ 0) : rn (rn p q) (rd p q) = rn p q ∧ rd (rn p q) (rd p q) = rd p q :=
  r_unique (by have := rd_pos (p := p) hq; omega) (rd_pos hq) (r_spec p hq).2.2 rfl
theorem read_pair {n d : Int} (hd : 1 < d) {tx : ByteArray} (h : Rt tx n d) (hs : tx.size ≤ 131072) (v : World) (y : Value) (e : y = .string tx) :
    Calls Try.prog 40 #[y] v (Ret (.tup3 (.pair (.cz (rn n d)) (.cz (rd n d))) (.is (.int .i64 0)) (.is (.int .i64 0))) v) := by
  subst e
  have ht := h.tot
  have hL : decide ((131072 : Int) < (tx.size : Int)) = false := decide_eq_false (by omega)
  have l1 := ztxt_digs n
  have l2 := ztxt_digs d
  have hl := h.left
  have hr := h.right
  obtain ⟨p0, p1, p2⟩ := ztxt_pos (z := d) (by omega)
  have k0 := h.hi 0 p0
  have hz2 : ((byteN tx ((ztxt n).size + 1) : Int) == 48) = false := by
    have := head_pos (z := d) (by omega)
    exact beq_eq_false_iff_ne.2 (by rw [Nat.add_zero] at k0; omega)
  have hk4 : Hid (∀ j, (ztxt n).size + 1 ≤ j → j < tx.size → GoodR tx ((ztxt n).size + 1) j) := Lib.hid fun j h0 hj => by
    obtain ⟨i, rfl⟩ : ∃ i, j = (ztxt n).size + 1 + i := ⟨j - ((ztxt n).size + 1), by omega⟩
    exact good_sub (t := ztxt d) (fr := 0) k0 (h.hi i (by omega)) (good_rpos (by omega) i (by omega))
  have hsl : ((byteN tx (ztxt n).size : Int) == 47) = true := beq_iff_eq.2 (by have := h.mid; omega)
  have hm := h.mid
  have nn : ∀ (v : World) (y : Value), y = .string (tx.extract 0 (ztxt n).size) → Calls Try.prog 74 #[y] v (Ret (.cz n) v) := fun v y e => num_z (by omega) v y (by rw [← hl]; exact e)
  have nd : ∀ (v : World) (y : Value), y = .string (tx.extract ((ztxt n).size + 1) tx.size) → Calls Try.prog 74 #[y] v (Ret (.cz d) v) := fun v y e => num_z (by omega) v y (by rw [← hr]; exact e)
  by_cases hn : 0 ≤ n
  · obtain ⟨a, b, _⟩ := ztxt_pos hn
    refine qread_01 (LA := (ztxt n).size) (N := 131072) hL ?_ a (by omega) (.inr ⟨by omega, by omega⟩) (Lib.hid fun j _ hj => ?_) nn (by omega) (by omega) (by omega) (by omega) (by omega) hsl (by omega) hk4 hz2 nd
    · rw [prefix_of (by omega), h.lo 0 a]
      exact decide_eq_false b
    · have := good_sub (s := tx) (t := ztxt n) (a := 0) (fr := 0) (j := j) (by rw [Nat.zero_add]; exact h.lo 0 a) (by rw [Nat.zero_add]; exact h.lo j hj) (good_rpos hn j hj)
      rwa [Nat.zero_add, Nat.zero_add] at this
  · obtain ⟨a, b, c, _⟩ := ztxt_neg (z := n) (by omega)
    refine qread_11 (LA := (ztxt n).size) (N := 131072) hL ?_ a (by omega) (.inr ⟨by omega, by omega⟩) (Lib.hid fun j h0 hj => ?_) nn (by omega) (by omega) (by omega) (by omega) ?_ (by omega) hsl (by omega) hk4 hz2 nd
    · rw [prefix_of (by omega), h.lo 0 (by omega)]
      exact decide_eq_true b
    · have := good_sub (s := tx) (t := ztxt n) (a := 0) (fr := 1) (j := j) (by rw [Nat.zero_add]; exact h.lo 1 (by omega)) (by rw [Nat.zero_add]; exact h.lo j hj) (good_rneg (by omega) j h0 hj)
      rwa [Nat.zero_add, Nat.zero_add] at this
    · rw [h.lo 1 a]
      exact beq_eq_false_iff_ne.2 (by omega)
theorem read_one {n : Int} (hs : (ztxt n).size ≤ 131072) (v : World) (y : Value) (e : y = .string (ztxt n)) :
    Calls Try.prog 40 #[y] v (Ret (.tup3 (.pair (.cz (rn n 1)) (.cz (rd n 1))) (.is (.int .i64 0)) (.is (.int .i64 0))) v) := by
  subst e
  have hL : decide ((131072 : Int) < ((ztxt n).size : Int)) = false := decide_eq_false (by omega)
  have l1 := ztxt_digs n
  have hl : (ztxt n).extract 0 (ztxt n).size = ztxt n := byte_ext (by rw [size_cut (Nat.le_refl _)]; omega) fun i hi => by rw [byteN_cut (Nat.le_refl _) (by omega), Nat.zero_add]
  have l2 : (digs (Int.natAbs 1)).length ≤ 131072 := Nat.le_trans (show (digs (Int.natAbs 1)).length ≤ 1 from digs_len_le (by decide)) (by omega)
  have nn : ∀ (v : World) (y : Value), y = .string ((ztxt n).extract 0 (ztxt n).size) → Calls Try.prog 74 #[y] v (Ret (.cz n) v) := fun v y e => num_z hs v y (by rw [← hl]; exact e)
  by_cases hn : 0 ≤ n
  · obtain ⟨a, b, _⟩ := ztxt_pos hn
    refine qread_00 (LA := (ztxt n).size) (N := 131072) hL ?_ a (Nat.le_refl _) (.inl rfl) (Lib.hid fun j _ hj => good_rpos hn j hj) nn (by decide) (by omega) l2 (by omega) rfl rfl
    rw [prefix_of (by omega)]
    exact decide_eq_false b
  · obtain ⟨a, b, c, _⟩ := ztxt_neg (z := n) (by omega)
    refine qread_10 (LA := (ztxt n).size) (N := 131072) hL ?_ a (Nat.le_refl _) (.inl rfl) (Lib.hid fun j h0 hj => good_rneg (by omega) j h0 hj) nn (by decide) (by omega) l2 (by omega) (beq_eq_false_iff_ne.2 (by omega)) rfl rfl
    rw [prefix_of (by omega)]
    exact decide_eq_true b
theorem read_txt {p q : Int} (hq : q ≠ 0) {tx : ByteArray} (et : tx = qtxt p q) (hs : tx.size ≤ 131072) (v : World) (y : Value) (e : y = .string tx) :
    Calls Try.prog 40 #[y] v (Ret (.tup3 (.pair (.cz (rn p q)) (.cz (rd p q))) (.is (.int .i64 0)) (.is (.int .i64 0))) v) := by
  obtain ⟨e1, e2⟩ := r_idem (p := p) hq
  have hp := rd_pos (p := p) hq
  unfold qtxt at et
  split at et
  · rename_i h1
    subst et
    have := read_one (n := rn p q) hs v y e
    rw [h1] at e1 e2
    rw [e1, e2] at this
    rw [h1]
    exact this
  · subst et
    have := read_pair (n := rn p q) (d := rd p q) (by omega) (rt_of _ _) hs v y e
    rw [e1, e2] at this
    exact this
theorem qtext_s {w : World} {x : Value} {p q : Int} {N0 : Nat} (h0 : Rz N0 w x p q) {tx : ByteArray} (et : tx = qtxt p q) (hN0 : N0 ≤ 10000000) (hq : q ≠ 0) (dv : decide (q.sign ≤ 0) = false) : Calls Try.prog 39 #[x] w (Ret (.tup2 (.is (.string tx)) (.is (.int .i64 0))) w) := by
  subst et
  exact qtext_k h0 hN0 hq dv

set_option maxHeartbeats 4000000 in
set_option maxRecDepth 8000 in
theorem rt_b {w : World} {x : Value} {p q : Int} (h0 : Rz 1048576 w x p q) (dk : decide (0 < q.sign) = false) (dv : decide (q.sign ≤ 0) = true)  : Calls Try.prog 11 #[x] w (Ret (.is (.bool true)) w) := by
  obtain ⟨na0, A0, n0, c0, nb0, B0, m0, d0, e0r, hx0, hy0⟩ := Rz.parts h0
  subst e0r
  have la0 := hx0.len
  have lb0 := hy0.len
  have T0 : Below w.heap.size w w := Below.refl _ _
  go_enter Try.func11, Try.ntmps11
  refine wp_seq ?_
  have HB : w.heap.size ≤ w.heap.size := T0.size
  refine wp_plan_seq [.new 4 (some (29, #[.bool na0, .slice A0 n0 c0, .bool nb0, .slice B0 m0 d0])), .val (.is (.bool false))] [] [] w.heap.size (by kernel_rfl) (by kernel_rfl) trivial HB ?_ ?_
  · exact ⟨fun s v h => does_new rfl rfl (x_box_r (h.same 0 rfl)) (okr _ _ _ _ _ _ _ _) rfl (.inr rfl),
      fun s v h => does_val rfl rfl (x_assign) rfl, trivial⟩
  intro g1597 ts v1597 hts E1597
  simp only [fillL, Nat.reduceAdd, List.setIfInBounds_toArray, List.set_cons_zero, List.set_cons_succ] at hts
  subst hts
  have T1598 : Below w.heap.size w v1597 := T0.trans E1597.below
  have f1599 := (pair_mono h0 E1597.mono)
  obtain ⟨q1601, p1602, l1603, o1604, b1605⟩ : ∃ q, g1597 0 = .pointer (some ⟨q, 0, none⟩) ∧ w.heap.size ≤ q ∧ OkB v1597 q 4 ∧ Bx v1597 q 29 #[.bool na0, .slice A0 n0 c0, .bool nb0, .slice B0 m0 d0] := E1597.facts 0 (by decide)
  have h1606 : w.heap.size ≤ q1601 := Nat.le_trans HB l1603
  refine then_normal ?_
  refine wp_seq ?_
  refine wp_seq ?_
  have HB : w.heap.size ≤ v1597.heap.size := T1598.size
  refine wp_plan_seq [.val (.is (.bool true)), .val (.is (.bool false))] [] [] w.heap.size (by kernel_rfl) (by kernel_rfl) trivial HB ?_ ?_
  · exact ⟨fun s v h => does_call rfl rfl (x_call0 Try.call16) (lawake_k),
      fun s v h => does_val rfl rfl (x_not (h.dep 0 rfl)) rfl, trivial⟩
  intro g1607 ts v1607 hts E1607
  simp only [fillL, Nat.reduceAdd, List.setIfInBounds_toArray, List.set_cons_zero, List.set_cons_succ] at hts
  subst hts
  have T1608 : Below w.heap.size w v1607 := T1598.trans E1607.below
  have l1609 : q1601 < v1597.heap.size := b1605.lt
  have b1610 : Bx v1607 q1601 29 #[.bool na0, .slice A0 n0 c0, .bool nb0, .slice B0 m0 d0] := (E1607.far q1601 b1605.lt (by simp)).trans b1605
  have f1611 := (pair_mono f1599 E1607.mono)
  have e1613 : g1607 1 = (.bool false) := E1607.facts 1 (by decide)
  refine then_normal ?_
  refine wp_cond_false e1613 ?_
  refine wp_skip ?_
  refine then_normal ?_
  refine wp_seq ?_
  have HB : w.heap.size ≤ v1607.heap.size := T1608.size
  refine wp_plan_seq [.val (.pair (.az 1048576 p) (.az 1048576 q)), .val (.tup2 (.is (.string ⟨#[]⟩)) (.is (.int .i64 30))), .val (.tup2 (.is (.string ⟨#[]⟩)) (.is (.int .i64 30))), .val (.is (.string ⟨#[]⟩)), .val (.is (.int .i64 30)), .val (.is (.string ⟨#[]⟩)), .val (.is (.int .i64 30))] [] [] w.heap.size (by kernel_rfl) (by kernel_rfl) trivial HB ?_ ?_
  · exact ⟨fun s v h => does_val rfl rfl (x_load_r ((h.same 1 rfl).trans p1602) ((h.far q1601 b1610.lt (by simp)).trans b1610)) (pair_mono f1611 h.mono),
      fun s v h => does_call rfl rfl (x_call1 Try.call39) (qtext_b (h.dep 0 rfl) dv),
      fun s v h => does_val rfl rfl (x_move) (h.dep 1 rfl),
      fun s v h => by obtain ⟨r0, r1, e, f0, f1⟩ := tup2_at (h.dep 2 rfl); exact does_val rfl rfl (x_ext e rfl) f0,
      fun s v h => by obtain ⟨r0, r1, e, f0, f1⟩ := tup2_at (h.dep 2 rfl); exact does_val rfl rfl (x_ext e rfl) f1,
      fun s v h => does_val rfl rfl (x_assign) (h.dep 3 rfl),
      fun s v h => does_val rfl rfl (x_assign) (h.dep 4 rfl), trivial⟩
  intro g1614 ts v1614 hts E1614
  simp only [fillL, Nat.reduceAdd, List.setIfInBounds_toArray, List.set_cons_zero, List.set_cons_succ] at hts
  subst hts
  have T1615 : Below w.heap.size w v1614 := T1608.trans E1614.below
  have l1616 : q1601 < v1607.heap.size := b1610.lt
  have b1617 : Bx v1614 q1601 29 #[.bool na0, .slice A0 n0 c0, .bool nb0, .slice B0 m0 d0] := (E1614.far q1601 b1610.lt (by simp)).trans b1610
  have f1618 := (pair_mono f1611 E1614.mono)
  have e1623 : g1614 6 = (.int .i64 30) := E1614.facts 6 (by decide)
  refine then_normal ?_
  refine wp_seq ?_
  refine wp_seq ?_
  have HB : w.heap.size ≤ v1614.heap.size := T1615.size
  refine wp_plan_seq [.val (.pair (.az 1048576 p) (.az 1048576 q)), .val (.is (.bool false)), .val (.is (.bool true))] [] [] w.heap.size (by kernel_rfl) (by kernel_rfl) trivial HB ?_ ?_
  · exact ⟨fun s v h => does_val rfl rfl (x_load_r ((h.same 1 rfl).trans p1602) ((h.far q1601 b1617.lt (by simp)).trans b1617)) (pair_mono f1618 h.mono),
      fun s v h => does_call rfl rfl (x_call1 Try.call31) (ret_lit dk (lok_k (h.dep 0 rfl) (by omega))),
      fun s v h => does_val rfl rfl (x_not (h.dep 1 rfl)) rfl, trivial⟩
  intro g1624 ts v1624 hts E1624
  simp only [fillL, Nat.reduceAdd, List.setIfInBounds_toArray, List.set_cons_zero, List.set_cons_succ] at hts
  subst hts
  have T1625 : Below w.heap.size w v1624 := T1615.trans E1624.below
  have l1626 : q1601 < v1614.heap.size := b1617.lt
  have b1627 : Bx v1624 q1601 29 #[.bool na0, .slice A0 n0 c0, .bool nb0, .slice B0 m0 d0] := (E1624.far q1601 b1617.lt (by simp)).trans b1617
  have e1632 : g1624 2 = (.bool true) := E1624.facts 2 (by decide)
  refine then_normal ?_
  refine wp_cond_true e1632 ?_
  refine wp_seq ?_
  have HB : w.heap.size ≤ v1624.heap.size := T1625.size
  refine wp_plan_seq [.val (.is (.int .i64 30)), .val (.is (.bool true)), .val (.is (.bool true))] [] [] w.heap.size (by kernel_rfl) (by kernel_rfl) trivial HB ?_ ?_
  · exact ⟨fun s v h => does_val rfl rfl (x_move) ((h.same 4 rfl).trans e1623),
      fun s v h => does_val rfl rfl (x_eql_err (h.dep 0 rfl) rfl) rfl,
      fun s v h => does_val rfl rfl (x_assign) (h.dep 1 rfl), trivial⟩
  intro g1633 ts v1633 hts E1633
  simp only [fillL, Nat.reduceAdd, List.setIfInBounds_toArray, List.set_cons_zero, List.set_cons_succ] at hts
  subst hts
  have T1634 : Below w.heap.size w v1633 := T1625.trans E1633.below
  have l1635 : q1601 < v1624.heap.size := b1627.lt
  have e1642 : g1633 2 = (.bool true) := E1633.facts 2 (by decide)
  refine then_normal ?_
  refine wp_ret ?_
  exact bodyPost_ret (results_tmp (t := 2) rfl _ _ _) rfl ⟨_, rfl, e1642, T1634⟩

set_option maxHeartbeats 4000000 in
set_option maxRecDepth 8000 in
theorem rt_l {w : World} {x : Value} {p q : Int} (h0 : Rz 1048576 w x p q) {tx : ByteArray} (et : tx = qtxt p q) (hp : 0 < q) (dk : decide (0 < q.sign) = true) (dl : decide ((131072 : Int) < (tx.size : Int)) = true)  : Calls Try.prog 11 #[x] w (Ret (.is (.bool true)) w) := by
  obtain ⟨na0, A0, n0, c0, nb0, B0, m0, d0, e0r, hx0, hy0⟩ := Rz.parts h0
  subst e0r
  have la0 := hx0.len
  have lb0 := hy0.len
  have hq0 : q ≠ 0 := by omega
  have T0 : Below w.heap.size w w := Below.refl _ _
  go_enter Try.func11, Try.ntmps11
  refine wp_seq ?_
  have HB : w.heap.size ≤ w.heap.size := T0.size
  refine wp_plan_seq [.new 4 (some (29, #[.bool na0, .slice A0 n0 c0, .bool nb0, .slice B0 m0 d0])), .val (.is (.bool false))] [] [] w.heap.size (by kernel_rfl) (by kernel_rfl) trivial HB ?_ ?_
  · exact ⟨fun s v h => does_new rfl rfl (x_box_r (h.same 0 rfl)) (okr _ _ _ _ _ _ _ _) rfl (.inr rfl),
      fun s v h => does_val rfl rfl (x_assign) rfl, trivial⟩
  intro g1643 ts v1643 hts E1643
  simp only [fillL, Nat.reduceAdd, List.setIfInBounds_toArray, List.set_cons_zero, List.set_cons_succ] at hts
  subst hts
  have T1644 : Below w.heap.size w v1643 := T0.trans E1643.below
  have f1645 := (pair_mono h0 E1643.mono)
  obtain ⟨q1647, p1648, l1649, o1650, b1651⟩ : ∃ q, g1643 0 = .pointer (some ⟨q, 0, none⟩) ∧ w.heap.size ≤ q ∧ OkB v1643 q 4 ∧ Bx v1643 q 29 #[.bool na0, .slice A0 n0 c0, .bool nb0, .slice B0 m0 d0] := E1643.facts 0 (by decide)
  have h1652 : w.heap.size ≤ q1647 := Nat.le_trans HB l1649
  refine then_normal ?_
  refine wp_seq ?_
  refine wp_seq ?_
  have HB : w.heap.size ≤ v1643.heap.size := T1644.size
  refine wp_plan_seq [.val (.is (.bool true)), .val (.is (.bool false))] [] [] w.heap.size (by kernel_rfl) (by kernel_rfl) trivial HB ?_ ?_
  · exact ⟨fun s v h => does_call rfl rfl (x_call0 Try.call16) (lawake_k),
      fun s v h => does_val rfl rfl (x_not (h.dep 0 rfl)) rfl, trivial⟩
  intro g1653 ts v1653 hts E1653
  simp only [fillL, Nat.reduceAdd, List.setIfInBounds_toArray, List.set_cons_zero, List.set_cons_succ] at hts
  subst hts
  have T1654 : Below w.heap.size w v1653 := T1644.trans E1653.below
  have l1655 : q1647 < v1643.heap.size := b1651.lt
  have b1656 : Bx v1653 q1647 29 #[.bool na0, .slice A0 n0 c0, .bool nb0, .slice B0 m0 d0] := (E1653.far q1647 b1651.lt (by simp)).trans b1651
  have f1657 := (pair_mono f1645 E1653.mono)
  have e1659 : g1653 1 = (.bool false) := E1653.facts 1 (by decide)
  refine then_normal ?_
  refine wp_cond_false e1659 ?_
  refine wp_skip ?_
  refine then_normal ?_
  refine wp_seq ?_
  have HB : w.heap.size ≤ v1653.heap.size := T1654.size
  refine wp_plan_seq [.val (.pair (.az 1048576 p) (.az 1048576 q)), .val (.tup2 (.is (.string tx)) (.is (.int .i64 0))), .val (.tup2 (.is (.string tx)) (.is (.int .i64 0))), .val (.is (.string tx)), .val (.is (.int .i64 0)), .val (.is (.string tx)), .val (.is (.int .i64 0))] [] [] w.heap.size (by kernel_rfl) (by kernel_rfl) trivial HB ?_ ?_
  · exact ⟨fun s v h => does_val rfl rfl (x_load_r ((h.same 1 rfl).trans p1648) ((h.far q1647 b1656.lt (by simp)).trans b1656)) (pair_mono f1657 h.mono),
      fun s v h => does_call rfl rfl (x_call1 Try.call39) (qtext_s (h.dep 0 rfl) et (by omega) hq0 (dv_one hp)),
      fun s v h => does_val rfl rfl (x_move) (h.dep 1 rfl),
      fun s v h => by obtain ⟨r0, r1, e, f0, f1⟩ := tup2_at (h.dep 2 rfl); exact does_val rfl rfl (x_ext e rfl) f0,
      fun s v h => by obtain ⟨r0, r1, e, f0, f1⟩ := tup2_at (h.dep 2 rfl); exact does_val rfl rfl (x_ext e rfl) f1,
      fun s v h => does_val rfl rfl (x_assign) (h.dep 3 rfl),
      fun s v h => does_val rfl rfl (x_assign) (h.dep 4 rfl), trivial⟩
  intro g1660 ts v1660 hts E1660
  simp only [fillL, Nat.reduceAdd, List.setIfInBounds_toArray, List.set_cons_zero, List.set_cons_succ] at hts
  subst hts
  have T1661 : Below w.heap.size w v1660 := T1654.trans E1660.below
  have l1662 : q1647 < v1653.heap.size := b1656.lt
  have b1663 : Bx v1660 q1647 29 #[.bool na0, .slice A0 n0 c0, .bool nb0, .slice B0 m0 d0] := (E1660.far q1647 b1656.lt (by simp)).trans b1656
  have f1664 := (pair_mono f1657 E1660.mono)
  have e1668 : g1660 5 = (.string tx) := E1660.facts 5 (by decide)
  have e1669 : g1660 6 = (.int .i64 0) := E1660.facts 6 (by decide)
  refine then_normal ?_
  refine wp_seq ?_
  refine wp_seq ?_
  have HB : w.heap.size ≤ v1660.heap.size := T1661.size
  refine wp_plan_seq [.val (.pair (.az 1048576 p) (.az 1048576 q)), .val (.is (.bool true)), .val (.is (.bool false))] [] [] w.heap.size (by kernel_rfl) (by kernel_rfl) trivial HB ?_ ?_
  · exact ⟨fun s v h => does_val rfl rfl (x_load_r ((h.same 1 rfl).trans p1648) ((h.far q1647 b1663.lt (by simp)).trans b1663)) (pair_mono f1664 h.mono),
      fun s v h => does_call rfl rfl (x_call1 Try.call31) (ret_lit dk (lok_k (h.dep 0 rfl) (by omega))),
      fun s v h => does_val rfl rfl (x_not (h.dep 1 rfl)) rfl, trivial⟩
  intro g1670 ts v1670 hts E1670
  simp only [fillL, Nat.reduceAdd, List.setIfInBounds_toArray, List.set_cons_zero, List.set_cons_succ] at hts
  subst hts
  have T1671 : Below w.heap.size w v1670 := T1661.trans E1670.below
  have l1672 : q1647 < v1660.heap.size := b1663.lt
  have b1673 : Bx v1670 q1647 29 #[.bool na0, .slice A0 n0 c0, .bool nb0, .slice B0 m0 d0] := (E1670.far q1647 b1663.lt (by simp)).trans b1663
  have e1678 : g1670 2 = (.bool false) := E1670.facts 2 (by decide)
  refine then_normal ?_
  refine wp_cond_false e1678 ?_
  refine wp_skip ?_
  refine then_normal ?_
  refine wp_seq ?_
  refine wp_seq ?_
  have HB : w.heap.size ≤ v1670.heap.size := T1671.size
  refine wp_plan_seq [.val (.is (.string tx)), .val (.is (.int .i64 (tx.size : Int))), .val (.is (.bool true))] [] [] w.heap.size (by kernel_rfl) (by kernel_rfl) trivial HB ?_ ?_
  · exact ⟨fun s v h => does_val rfl rfl (x_move) ((h.same 3 rfl).trans e1668),
      fun s v h => does_val rfl rfl (x_len_str (h.dep 0 rfl)) rfl,
      fun s v h => does_val rfl rfl (x_gtr (h.dep 1 rfl) rfl) (congrArg Value.bool dl), trivial⟩
  intro g1679 ts v1679 hts E1679
  simp only [fillL, Nat.reduceAdd, List.setIfInBounds_toArray, List.set_cons_zero, List.set_cons_succ] at hts
  subst hts
  have T1680 : Below w.heap.size w v1679 := T1671.trans E1679.below
  have l1681 : q1647 < v1670.heap.size := b1673.lt
  have b1682 : Bx v1679 q1647 29 #[.bool na0, .slice A0 n0 c0, .bool nb0, .slice B0 m0 d0] := (E1679.far q1647 b1673.lt (by simp)).trans b1673
  have e1688 : g1679 2 = (.bool true) := E1679.facts 2 (by decide)
  refine then_normal ?_
  refine wp_cond_true e1688 ?_
  refine wp_seq ?_
  have HB : w.heap.size ≤ v1679.heap.size := T1680.size
  refine wp_plan_seq [.val (.is (.int .i64 0)), .val (.is (.bool true)), .val (.is (.bool true))] [] [] w.heap.size (by kernel_rfl) (by kernel_rfl) trivial HB ?_ ?_
  · exact ⟨fun s v h => does_val rfl rfl (x_move) ((h.same 4 rfl).trans e1669),
      fun s v h => does_val rfl rfl (x_eql_err (h.dep 0 rfl) rfl) rfl,
      fun s v h => does_val rfl rfl (x_assign) (h.dep 1 rfl), trivial⟩
  intro g1689 ts v1689 hts E1689
  simp only [fillL, Nat.reduceAdd, List.setIfInBounds_toArray, List.set_cons_zero, List.set_cons_succ] at hts
  subst hts
  have T1690 : Below w.heap.size w v1689 := T1680.trans E1689.below
  have l1691 : q1647 < v1679.heap.size := b1682.lt
  have e1698 : g1689 2 = (.bool true) := E1689.facts 2 (by decide)
  refine then_normal ?_
  refine wp_ret ?_
  exact bodyPost_ret (results_tmp (t := 2) rfl _ _ _) rfl ⟨_, rfl, e1698, T1690⟩

set_option maxHeartbeats 4000000 in
set_option maxRecDepth 8000 in
theorem rt_a {w : World} {x : Value} {p q : Int} (h0 : Rz 1048576 w x p q) {tx : ByteArray} (et : tx = qtxt p q) (hp : 0 < q) (dk : decide (0 < q.sign) = true) (dl : decide ((131072 : Int) < (tx.size : Int)) = false) (hread : ∀ (v : World) (y : Value), y = .string tx → Calls Try.prog 40 #[y] v (Ret (.tup3 (.pair (.cz (rn p q)) (.cz (rd p q))) (.is (.int .i64 0)) (.is (.int .i64 0))) v))  : Calls Try.prog 11 #[x] w (Ret (.is (.bool true)) w) := by
  obtain ⟨na0, A0, n0, c0, nb0, B0, m0, d0, e0r, hx0, hy0⟩ := Rz.parts h0
  subst e0r
  have la0 := hx0.len
  have lb0 := hy0.len
  have hq0 : q ≠ 0 := by omega
  have T0 : Below w.heap.size w w := Below.refl _ _
  go_enter Try.func11, Try.ntmps11
  refine wp_seq ?_
  have HB : w.heap.size ≤ w.heap.size := T0.size
  refine wp_plan_seq [.new 4 (some (29, #[.bool na0, .slice A0 n0 c0, .bool nb0, .slice B0 m0 d0])), .val (.is (.bool false))] [] [] w.heap.size (by kernel_rfl) (by kernel_rfl) trivial HB ?_ ?_
  · exact ⟨fun s v h => does_new rfl rfl (x_box_r (h.same 0 rfl)) (okr _ _ _ _ _ _ _ _) rfl (.inr rfl),
      fun s v h => does_val rfl rfl (x_assign) rfl, trivial⟩
  intro g1699 ts v1699 hts E1699
  simp only [fillL, Nat.reduceAdd, List.setIfInBounds_toArray, List.set_cons_zero, List.set_cons_succ] at hts
  subst hts
  have T1700 : Below w.heap.size w v1699 := T0.trans E1699.below
  have f1701 := (pair_mono h0 E1699.mono)
  obtain ⟨q1703, p1704, l1705, o1706, b1707⟩ : ∃ q, g1699 0 = .pointer (some ⟨q, 0, none⟩) ∧ w.heap.size ≤ q ∧ OkB v1699 q 4 ∧ Bx v1699 q 29 #[.bool na0, .slice A0 n0 c0, .bool nb0, .slice B0 m0 d0] := E1699.facts 0 (by decide)
  have h1708 : w.heap.size ≤ q1703 := Nat.le_trans HB l1705
  refine then_normal ?_
  refine wp_seq ?_
  refine wp_seq ?_
  have HB : w.heap.size ≤ v1699.heap.size := T1700.size
  refine wp_plan_seq [.val (.is (.bool true)), .val (.is (.bool false))] [] [] w.heap.size (by kernel_rfl) (by kernel_rfl) trivial HB ?_ ?_
  · exact ⟨fun s v h => does_call rfl rfl (x_call0 Try.call16) (lawake_k),
      fun s v h => does_val rfl rfl (x_not (h.dep 0 rfl)) rfl, trivial⟩
  intro g1709 ts v1709 hts E1709
  simp only [fillL, Nat.reduceAdd, List.setIfInBounds_toArray, List.set_cons_zero, List.set_cons_succ] at hts
  subst hts
  have T1710 : Below w.heap.size w v1709 := T1700.trans E1709.below
  have l1711 : q1703 < v1699.heap.size := b1707.lt
  have b1712 : Bx v1709 q1703 29 #[.bool na0, .slice A0 n0 c0, .bool nb0, .slice B0 m0 d0] := (E1709.far q1703 b1707.lt (by simp)).trans b1707
  have f1713 := (pair_mono f1701 E1709.mono)
  have e1715 : g1709 1 = (.bool false) := E1709.facts 1 (by decide)
  refine then_normal ?_
  refine wp_cond_false e1715 ?_
  refine wp_skip ?_
  refine then_normal ?_
  refine wp_seq ?_
  have HB : w.heap.size ≤ v1709.heap.size := T1710.size
  refine wp_plan_seq [.val (.pair (.az 1048576 p) (.az 1048576 q)), .val (.tup2 (.is (.string tx)) (.is (.int .i64 0))), .val (.tup2 (.is (.string tx)) (.is (.int .i64 0))), .val (.is (.string tx)), .val (.is (.int .i64 0)), .val (.is (.string tx)), .val (.is (.int .i64 0))] [] [] w.heap.size (by kernel_rfl) (by kernel_rfl) trivial HB ?_ ?_
  · exact ⟨fun s v h => does_val rfl rfl (x_load_r ((h.same 1 rfl).trans p1704) ((h.far q1703 b1712.lt (by simp)).trans b1712)) (pair_mono f1713 h.mono),
      fun s v h => does_call rfl rfl (x_call1 Try.call39) (qtext_s (h.dep 0 rfl) et (by omega) hq0 (dv_one hp)),
      fun s v h => does_val rfl rfl (x_move) (h.dep 1 rfl),
      fun s v h => by obtain ⟨r0, r1, e, f0, f1⟩ := tup2_at (h.dep 2 rfl); exact does_val rfl rfl (x_ext e rfl) f0,
      fun s v h => by obtain ⟨r0, r1, e, f0, f1⟩ := tup2_at (h.dep 2 rfl); exact does_val rfl rfl (x_ext e rfl) f1,
      fun s v h => does_val rfl rfl (x_assign) (h.dep 3 rfl),
      fun s v h => does_val rfl rfl (x_assign) (h.dep 4 rfl), trivial⟩
  intro g1716 ts v1716 hts E1716
  simp only [fillL, Nat.reduceAdd, List.setIfInBounds_toArray, List.set_cons_zero, List.set_cons_succ] at hts
  subst hts
  have T1717 : Below w.heap.size w v1716 := T1710.trans E1716.below
  have l1718 : q1703 < v1709.heap.size := b1712.lt
  have b1719 : Bx v1716 q1703 29 #[.bool na0, .slice A0 n0 c0, .bool nb0, .slice B0 m0 d0] := (E1716.far q1703 b1712.lt (by simp)).trans b1712
  have f1720 := (pair_mono f1713 E1716.mono)
  have e1724 : g1716 5 = (.string tx) := E1716.facts 5 (by decide)
  have e1725 : g1716 6 = (.int .i64 0) := E1716.facts 6 (by decide)
  refine then_normal ?_
  refine wp_seq ?_
  refine wp_seq ?_
  have HB : w.heap.size ≤ v1716.heap.size := T1717.size
  refine wp_plan_seq [.val (.pair (.az 1048576 p) (.az 1048576 q)), .val (.is (.bool true)), .val (.is (.bool false))] [] [] w.heap.size (by kernel_rfl) (by kernel_rfl) trivial HB ?_ ?_
  · exact ⟨fun s v h => does_val rfl rfl (x_load_r ((h.same 1 rfl).trans p1704) ((h.far q1703 b1719.lt (by simp)).trans b1719)) (pair_mono f1720 h.mono),
      fun s v h => does_call rfl rfl (x_call1 Try.call31) (ret_lit dk (lok_k (h.dep 0 rfl) (by omega))),
      fun s v h => does_val rfl rfl (x_not (h.dep 1 rfl)) rfl, trivial⟩
  intro g1726 ts v1726 hts E1726
  simp only [fillL, Nat.reduceAdd, List.setIfInBounds_toArray, List.set_cons_zero, List.set_cons_succ] at hts
  subst hts
  have T1727 : Below w.heap.size w v1726 := T1717.trans E1726.below
  have l1728 : q1703 < v1716.heap.size := b1719.lt
  have b1729 : Bx v1726 q1703 29 #[.bool na0, .slice A0 n0 c0, .bool nb0, .slice B0 m0 d0] := (E1726.far q1703 b1719.lt (by simp)).trans b1719
  have f1730 := (pair_mono f1720 E1726.mono)
  have e1734 : g1726 2 = (.bool false) := E1726.facts 2 (by decide)
  refine then_normal ?_
  refine wp_cond_false e1734 ?_
  refine wp_skip ?_
  refine then_normal ?_
  refine wp_seq ?_
  refine wp_seq ?_
  have HB : w.heap.size ≤ v1726.heap.size := T1727.size
  refine wp_plan_seq [.val (.is (.string tx)), .val (.is (.int .i64 (tx.size : Int))), .val (.is (.bool false))] [] [] w.heap.size (by kernel_rfl) (by kernel_rfl) trivial HB ?_ ?_
  · exact ⟨fun s v h => does_val rfl rfl (x_move) ((h.same 3 rfl).trans e1724),
      fun s v h => does_val rfl rfl (x_len_str (h.dep 0 rfl)) rfl,
      fun s v h => does_val rfl rfl (x_gtr (h.dep 1 rfl) rfl) (congrArg Value.bool dl), trivial⟩
  intro g1735 ts v1735 hts E1735
  simp only [fillL, Nat.reduceAdd, List.setIfInBounds_toArray, List.set_cons_zero, List.set_cons_succ] at hts
  subst hts
  have T1736 : Below w.heap.size w v1735 := T1727.trans E1735.below
  have l1737 : q1703 < v1726.heap.size := b1729.lt
  have b1738 : Bx v1735 q1703 29 #[.bool na0, .slice A0 n0 c0, .bool nb0, .slice B0 m0 d0] := (E1735.far q1703 b1729.lt (by simp)).trans b1729
  have f1739 := (pair_mono f1730 E1735.mono)
  have e1744 : g1735 2 = (.bool false) := E1735.facts 2 (by decide)
  refine then_normal ?_
  refine wp_cond_false e1744 ?_
  refine wp_skip ?_
  refine then_normal ?_
  refine wp_seq ?_
  have HB : w.heap.size ≤ v1735.heap.size := T1736.size
  refine wp_plan_seq [.val (.is (.string tx)), .val (.tup3 (.pair (.cz (rn p q)) (.cz (rd p q))) (.is (.int .i64 0)) (.is (.int .i64 0))), .val (.tup3 (.pair (.cz (rn p q)) (.cz (rd p q))) (.is (.int .i64 0)) (.is (.int .i64 0))), .val (.pair (.cz (rn p q)) (.cz (rd p q))), .val (.is (.int .i64 0)), .val (.is (.int .i64 0)), .new 4 none, .put 5 30, .val (.is (.int .i64 0)), .val (.is (.int .i64 0))] [] [] w.heap.size (by kernel_rfl) (by kernel_rfl) trivial HB ?_ ?_
  · exact ⟨fun s v h => does_val rfl rfl (x_move) ((h.same 3 rfl).trans e1724),
      fun s v h => does_call rfl rfl (x_call1 Try.call40) (hread _ _ (h.dep 0 rfl)),
      fun s v h => does_val rfl rfl (x_move) (h.dep 1 rfl),
      fun s v h => by obtain ⟨r0, r1, r2, e, f0, f1, f2⟩ := tup3_at (h.dep 2 rfl); exact does_val rfl rfl (x_ext e rfl) f0,
      fun s v h => by obtain ⟨r0, r1, r2, e, f0, f1, f2⟩ := tup3_at (h.dep 2 rfl); exact does_val rfl rfl (x_ext e rfl) f1,
      fun s v h => by obtain ⟨r0, r1, r2, e, f0, f1, f2⟩ := tup3_at (h.dep 2 rfl); exact does_val rfl rfl (x_ext e rfl) f2,
      fun s v h => does_new rfl rfl x_alloc_r (okr _ _ _ _ _ _ _ _) rfl (.inl rfl),
      fun s v h => by obtain ⟨q, e1, e2, e3⟩ := new_at (h.dep 6 rfl); exact does_put_r rfl rfl e1 (pair_shape (num_cz _) (num_cz _) (h.dep 3 rfl)) e3 (Nat.le_trans HB e2),
      fun s v h => does_val rfl rfl (x_assign) (h.dep 4 rfl),
      fun s v h => does_val rfl rfl (x_assign) (h.dep 5 rfl), trivial⟩
  intro g1745 ts v1745 hts E1745
  simp only [fillL, Nat.reduceAdd, List.setIfInBounds_toArray, List.set_cons_zero, List.set_cons_succ] at hts
  subst hts
  have T1746 : Below w.heap.size w v1745 := T1736.trans E1745.below
  have l1747 : q1703 < v1735.heap.size := b1738.lt
  have b1748 : Bx v1745 q1703 29 #[.bool na0, .slice A0 n0 c0, .bool nb0, .slice B0 m0 d0] := (E1745.far q1703 b1738.lt (by simp)).trans b1738
  have f1749 := (pair_mono f1739 E1745.mono)
  have f1753 : ((.pair (.cz (rn p q)) (.cz (rd p q))) : Known).p v1745 (g1745 3) := E1745.facts 3 (by decide)
  have e1756 : g1745 8 = (.int .i64 0) := E1745.facts 8 (by decide)
  have e1757 : g1745 9 = (.int .i64 0) := E1745.facts 9 (by decide)
  obtain ⟨q1758, p1759, l1760, o1761⟩ : ∃ q, g1745 6 = .pointer (some ⟨q, 0, none⟩) ∧ v1735.heap.size ≤ q ∧ OkB v1745 q 4 := E1745.facts 6 (by decide)
  have h1762 : w.heap.size ≤ q1758 := Nat.le_trans HB l1760
  obtain ⟨t1764, x1766, A1767, m1768, c1769, x1770, A1771, m1772, c1773, e1774, b1765⟩ := put_info4 (E1745.facts 7 (by decide)) p1759 (pair_shape (num_cz _) (num_cz _) f1753)
  have f1775 : ((.pair (.cz (rn p q)) (.cz (rd p q))) : Known).p v1745 (.agg #[.bool x1766, .slice A1767 m1768 c1769, .bool x1770, .slice A1771 m1772 c1773]) := pair_at f1753 e1774.symm
  refine then_normal ?_
  refine wp_seq ?_
  have HB : w.heap.size ≤ v1745.heap.size := T1746.size
  refine wp_plan_seq [.val (.is (.pointer (some ⟨q1703, 0, none⟩))), .val (.az 1048576 p), .val (.is (.pointer (some ⟨q1703, 2, none⟩))), .val (.az 1048576 q), .val (.tup2 (.pair (.cz (rn p q)) (.cz (rd p q))) (.is (.int .i64 0))), .val (.tup2 (.pair (.cz (rn p q)) (.cz (rd p q))) (.is (.int .i64 0))), .val (.pair (.cz (rn p q)) (.cz (rd p q))), .val (.is (.int .i64 0)), .new 4 none, .put 8 39, .val (.is (.int .i64 0))] [] [] w.heap.size (by kernel_rfl) (by kernel_rfl) trivial HB ?_ ?_
  · exact ⟨fun s v h => does_val rfl rfl (x_fld_r0 ((h.same 1 rfl).trans p1704)) rfl,
      fun s v h => does_val rfl rfl (x_load_r0 (h.dep 0 rfl) ((h.far q1703 b1748.lt (by simp)).trans b1748)) (pair_fst (pair_mono f1749 h.mono)),
      fun s v h => does_val rfl rfl (x_fld_r1 ((h.same 1 rfl).trans p1704)) rfl,
      fun s v h => does_val rfl rfl (x_load_r1 (h.dep 2 rfl) ((h.far q1703 b1748.lt (by simp)).trans b1748)) (pair_snd (pair_mono f1749 h.mono)),
      fun s v h => does_call rfl rfl (x_call2 Try.call13) (qmake_a (h.dep 1 rfl) (h.dep 3 rfl) (by omega) (by omega) hq0 (sgn_nz hq0)),
      fun s v h => does_val rfl rfl (x_move) (h.dep 4 rfl),
      fun s v h => by obtain ⟨r0, r1, e, f0, f1⟩ := tup2_at (h.dep 5 rfl); exact does_val rfl rfl (x_ext e rfl) f0,
      fun s v h => by obtain ⟨r0, r1, e, f0, f1⟩ := tup2_at (h.dep 5 rfl); exact does_val rfl rfl (x_ext e rfl) f1,
      fun s v h => does_new rfl rfl x_alloc_r (okr _ _ _ _ _ _ _ _) rfl (.inl rfl),
      fun s v h => by obtain ⟨q, e1, e2, e3⟩ := new_at (h.dep 8 rfl); exact does_put_r rfl rfl e1 (pair_shape (num_cz _) (num_cz _) (h.dep 6 rfl)) e3 (Nat.le_trans HB e2),
      fun s v h => does_val rfl rfl (x_assign) (h.dep 7 rfl), trivial⟩
  intro g1776 ts v1776 hts E1776
  simp only [fillL, Nat.reduceAdd, List.setIfInBounds_toArray, List.set_cons_zero, List.set_cons_succ] at hts
  subst hts
  have T1777 : Below w.heap.size w v1776 := T1746.trans E1776.below
  have l1778 : q1703 < v1745.heap.size := b1748.lt
  have l1779 : q1758 < v1745.heap.size := b1765.lt
  have b1780 : Bx v1776 q1703 29 #[.bool na0, .slice A0 n0 c0, .bool nb0, .slice B0 m0 d0] := (E1776.far q1703 b1748.lt (by simp)).trans b1748
  have b1781 : Bx v1776 q1758 t1764 #[.bool x1766, .slice A1767 m1768 c1769, .bool x1770, .slice A1771 m1772 c1773] := (E1776.far q1758 b1765.lt (by simp)).trans b1765
  have f1786 := (pair_mono f1775 E1776.mono)
  have f1789 : ((.pair (.cz (rn p q)) (.cz (rd p q))) : Known).p v1776 (g1776 6) := E1776.facts 6 (by decide)
  have e1791 : g1776 10 = (.int .i64 0) := E1776.facts 10 (by decide)
  obtain ⟨q1792, p1793, l1794, o1795⟩ : ∃ q, g1776 8 = .pointer (some ⟨q, 0, none⟩) ∧ v1745.heap.size ≤ q ∧ OkB v1776 q 4 := E1776.facts 8 (by decide)
  have h1796 : w.heap.size ≤ q1792 := Nat.le_trans HB l1794
  obtain ⟨t1799, x1801, A1802, m1803, c1804, x1805, A1806, m1807, c1808, e1809, b1800⟩ := put_info4 (E1776.facts 9 (by decide)) p1793 (pair_shape (num_cz _) (num_cz _) f1789)
  have f1810 : ((.pair (.cz (rn p q)) (.cz (rd p q))) : Known).p v1776 (.agg #[.bool x1801, .slice A1802 m1803 c1804, .bool x1805, .slice A1806 m1807 c1808]) := pair_at f1789 e1809.symm
  refine then_normal ?_
  refine wp_seq ?_
  have HB : w.heap.size ≤ v1776.heap.size := T1777.size
  refine wp_plan_seq [.val (.is (.int .i64 0)), .val (.is (.bool true)), .val (.is (.bool true)), .val (.is (.int .i64 0)), .val (.is (.bool true)), .val (.is (.bool true)), .val (.is (.bool true)), .val (.is (.int .i64 0)), .val (.is (.bool true)), .val (.is (.bool true)), .val (.is (.bool true)), .val (.is (.int .i64 0)), .val (.is (.bool true)), .val (.is (.bool true)), .val (.is (.bool true)), .val (.pair (.cz (rn p q)) (.cz (rd p q))), .val (.pair (.cz (rn p q)) (.cz (rd p q))), .val (.is (.bool true)), .val (.is (.bool true)), .val (.is (.bool true))] [] [] w.heap.size (by kernel_rfl) (by kernel_rfl) trivial HB ?_ ?_
  · exact ⟨fun s v h => does_val rfl rfl (x_move) ((h.same 4 rfl).trans e1725),
      fun s v h => does_val rfl rfl (x_eql_err (h.dep 0 rfl) rfl) rfl,
      fun s v h => does_val rfl rfl (x_move) (h.dep 1 rfl),
      fun s v h => does_val rfl (wanted_by (b := true) (want := true) rfl rfl (h.dep 2 rfl)) (x_move) ((h.same 7 rfl).trans e1757),
      fun s v h => does_val rfl (wanted_by (b := true) (want := true) rfl rfl (h.dep 2 rfl)) (x_eql_err (h.dep 3 rfl) rfl) rfl,
      fun s v h => does_val rfl rfl (x_pick (h.dep 2 rfl)) (h.dep 4 rfl),
      fun s v h => does_val rfl rfl (x_move) (h.dep 5 rfl),
      fun s v h => does_val rfl (wanted_by (b := true) (want := true) rfl rfl (h.dep 6 rfl)) (x_move) ((h.same 9 rfl).trans e1791),
      fun s v h => does_val rfl (wanted_by (b := true) (want := true) rfl rfl (h.dep 6 rfl)) (x_eql_err (h.dep 7 rfl) rfl) rfl,
      fun s v h => does_val rfl rfl (x_pick (h.dep 6 rfl)) (h.dep 8 rfl),
      fun s v h => does_val rfl rfl (x_move) (h.dep 9 rfl),
      fun s v h => does_val rfl (wanted_by (b := true) (want := true) rfl rfl (h.dep 10 rfl)) (x_move) ((h.same 6 rfl).trans e1756),
      fun s v h => does_val rfl (wanted_by (b := true) (want := true) rfl rfl (h.dep 10 rfl)) (x_eql_int (h.dep 11 rfl) rfl) rfl,
      fun s v h => does_val rfl rfl (x_pick (h.dep 10 rfl)) (h.dep 12 rfl),
      fun s v h => does_val rfl rfl (x_move) (h.dep 13 rfl),
      fun s v h => does_val rfl (wanted_by (b := true) (want := true) rfl rfl (h.dep 14 rfl)) (x_load_r ((h.same 5 rfl).trans p1759) ((h.far q1758 b1781.lt (by simp)).trans b1781)) (pair_mono f1786 h.mono),
      fun s v h => does_val rfl (wanted_by (b := true) (want := true) rfl rfl (h.dep 14 rfl)) (x_load_r ((h.same 8 rfl).trans p1793) ((h.far q1792 b1800.lt (by simp)).trans b1800)) (pair_mono f1810 h.mono),
      fun s v h => does_call rfl (wanted_by (b := true) (want := true) rfl rfl (h.dep 14 rfl)) (x_call2 Try.call15) (lsame_k (h.dep 15 rfl) (h.dep 16 rfl) rfl rfl),
      fun s v h => does_val rfl rfl (x_pick (h.dep 14 rfl)) (h.dep 17 rfl),
      fun s v h => does_val rfl rfl (x_assign) (h.dep 18 rfl), trivial⟩
  intro g1811 ts v1811 hts E1811
  simp only [fillL, Nat.reduceAdd, List.setIfInBounds_toArray, List.set_cons_zero, List.set_cons_succ] at hts
  subst hts
  have T1812 : Below w.heap.size w v1811 := T1777.trans E1811.below
  have l1813 : q1703 < v1776.heap.size := b1780.lt
  have l1814 : q1758 < v1776.heap.size := b1781.lt
  have l1815 : q1792 < v1776.heap.size := b1800.lt
  have e1847 : g1811 19 = (.bool true) := E1811.facts 19 (by decide)
  refine then_normal ?_
  refine wp_ret ?_
  exact bodyPost_ret (results_tmp (t := 2) rfl _ _ _) rfl ⟨_, rfl, e1847, T1812⟩

theorem ratThere_law (w : World) (v0 : Value) (x0 : Int × Int) (s0 : Rz 1048576 w v0 x0.1 x0.2) :
    Calls Try.prog 11 #[v0] w fun e w' => e = .returned (.bool true) ∧ Below w.heap.size w w' := by
  have fin : Calls Try.prog 11 #[v0] w (Ret (.is (.bool true)) w) := by
    obtain ⟨p, q⟩ := x0
    have s0 : Rz 1048576 w v0 p q := s0
    rcases one_ways q with ⟨hp, dk⟩ | ⟨dk, dv⟩
    · by_cases hs : (qtxt p q).size ≤ 131072
      · exact rt_a s0 rfl hp dk (decide_eq_false (by omega)) (read_txt (by omega) rfl hs)
      · exact rt_l s0 rfl hp dk (decide_eq_true (by omega))
    · exact rt_b s0 dk dv
  refine fin.mono fun e w' h => ?_
  obtain ⟨r, e, hr, hB⟩ := h
  have hr : r = .bool true := hr
  exact ⟨by rw [e, hr], hB⟩
end Go.Proofs.Ytdmahjbjlppeaaa
