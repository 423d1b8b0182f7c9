/- The walk of the statement ZintRing . -/
import Derived.Test.YtkidgeeedigkhaaFact2
namespace Go.Proofs.Ytkidgeeedigkhaa
open Go.RowKit

def boxed3 (w : World) (na : Bool) (va : Value) (nb : Bool) (vb : Value) (nc : Bool) (vc : Value) : World :=
  ((w.alloc (.cells #[.bool na, va] 24)).alloc (.cells #[.bool nb, vb] 24)).alloc (.cells #[.bool nc, vc] 24)
theorem boxed3_zb (w : World) (na : Bool) (va : Value) (nb : Bool) (vb : Value) (nc : Bool) (vc : Value) :
    Zb (boxed3 w na va nb vb nc vc) w.heap.size na va ∧ Zb (boxed3 w na va nb vb nc vc) (w.heap.size + 1) nb vb ∧ Zb (boxed3 w na va nb vb nc vc) (w.heap.size + 2) nc vc := by
  have h2 := Zb.new (w.alloc (.cells #[.bool na, va] 24)) nb vb
  have h3 := Zb.new ((w.alloc (.cells #[.bool na, va] 24)).alloc (.cells #[.bool nb, vb] 24)) nc vc
  rw [size2] at h3
  rw [show (w.alloc (.cells #[.bool na, va] 24)).heap.size = w.heap.size + 1 by simp] at h2
  refine ⟨(((Zb.new w na va).below ((Below.refl _ _).alloc (Nat.le_refl _) _) (by simp)).below ((Below.refl _ _).alloc (Nat.le_refl _) _) (by rw [size2]; omega)), (h2.below ((Below.refl _ _).alloc (Nat.le_refl _) _) (by rw [size2]; omega)), h3⟩

set_option maxHeartbeats 4000000 in
set_option maxRecDepth 8000 in
theorem zintRing_law (w : World) (x : Value) (a : Int) (y : Value) (b : Int) (z : Value) (d : Int) (ha0 : Az 1048576 w x a) (hb0 : Az 1048576 w y b) (hd0 : Az 1048576 w z d) :
    Calls Try.prog 3 #[x, y, z] w fun e w' => e = .returned (.bool true) ∧ Below w.heap.size w w' := by
  obtain ⟨na, A, n, c, la, rfl, _⟩ := ha0.ex
  obtain ⟨nb, A', n', c', lb, rfl, _⟩ := hb0.ex
  obtain ⟨nc, A'', n'', c'', lc, rfl, _⟩ := hd0.ex
  have la := ha0.len
  have lb := hb0.len
  have ld := hd0.len
  have hW : Below w.heap.size w (boxed3 w na (.slice A n c) nb (.slice A' n' c') nc (.slice A'' n'' c'')) := (((Below.refl _ _).alloc (Nat.le_refl _) _).alloc (by simp) _).alloc (by rw [size2]; omega) _
  obtain ⟨za0, zb0, zc0⟩ := boxed3_zb w na (.slice A n c) nb (.slice A' n' c') nc (.slice A'' n'' c'')
  have hsz := size3 w (.cells #[.bool na, .slice A n c] 24) (.cells #[.bool nb, .slice A' n' c'] 24) (.cells #[.bool nc, .slice A'' n'' c''] 24)
  go_enter Try.func3, Try.ntmps3
  go_wp2_with fail
  refine (alive_calls _).mono ?_
  rintro e w1 ⟨rfl, hB1⟩
  have hB2 := below_drawn hB1 ⟨1, rfl⟩
  have za := za0.below hB2 (by omega)
  have zb := zb0.below hB2 (by omega)
  have zc := zc0.below hB2 (by omega)
  have hW1 := below_step hW hB2
  have ha := ha0.below hW1
  have hb := hb0.below hW1
  have hd := hd0.below hW1
  clear hB1 hB2 za0 zb0 zc0 ha0 hb0 hd0 hW hsz
  go_wp2_with fail
  have L1_0 : (digs (a + b).natAbs).length ≤ 1048577 := len_add' la lb (by omega) (by omega)
  have L1_1 : (digs ((a + b) - b).natAbs).length ≤ 1048578 := len_sub' L1_0 lb (by omega) (by omega)
  have L1_3 : (digs (b + a).natAbs).length ≤ 1048577 := len_add' lb la (by omega) (by omega)
  have L1_4 : (digs (a * b).natAbs).length ≤ 2097152 := len_mul la lb
  have L1_5 : (digs (b * a).natAbs).length ≤ 2097152 := len_mul lb la
  refine wp_region_facts' [.az 1048576 a, .az 1048576 b, .cz (a + b), .az 1048576 b, .cz ((a + b) - b), .az 1048576 a, .cz a, .is (.bool true), .is (.bool false), .is (.bool false), .az 1048576 a, .az 1048576 b, .cz (a + b), .az 1048576 b, .az 1048576 a, .cz (b + a), .is (.bool true), .is (.bool false), .is (.bool false), .is (.bool false), .az 1048576 a, .az 1048576 b, .cz (a * b), .az 1048576 b, .az 1048576 a, .cz (b * a), .is (.bool true), .is (.bool false), .is (.bool false)] (by kernel_rfl) (by kernel_rfl) ?_ ?_
  · exact ⟨fun s v h => step_val rfl rfl (load_zb (h.same 3 rfl) (za.below h.below za.lt)) (ha.below h.below),
      fun s v h => step_val rfl rfl (load_zb (h.same 4 rfl) (zb.below h.below zb.lt)) (hb.below h.below),
      fun s v h => step_calls rfl rfl (call2 Try.call14) (add_c (h.dep 0 rfl) (h.dep 1 rfl) (by omega) (by omega)),
      fun s v h => step_val rfl rfl (load_zb (h.same 4 rfl) (zb.below h.below zb.lt)) (hb.below h.below),
      fun s v h => step_calls rfl rfl (call2 Try.call13) (sub_c (Cz.az (h.dep 2 rfl) L1_0) (h.dep 3 rfl) (by omega) (by omega)),
      fun s v h => step_val rfl rfl (load_zb (h.same 3 rfl) (za.below h.below za.lt)) (ha.below h.below),
      fun s v h => step_calls rfl rfl (call1 Try.call15) (form_c (h.dep 5 rfl)),
      fun s v h => step_calls rfl rfl (call2 Try.call12) (eq_b (eq_c (h.dep 4 rfl) (h.dep 6 rfl) (Int.add_sub_cancel a b))),
      fun s v h => step_val rfl rfl (not1 (h.dep 7 rfl)) rfl,
      fun s v h => step_val rfl rfl (move1 rfl) (h.dep 8 rfl),
      fun s v h => step_val rfl (wanted_of (b := false) (want := false) rfl rfl (h.dep 9 rfl)) (load_zb (h.same 3 rfl) (za.below h.below za.lt)) (ha.below h.below),
      fun s v h => step_val rfl (wanted_of (b := false) (want := false) rfl rfl (h.dep 9 rfl)) (load_zb (h.same 4 rfl) (zb.below h.below zb.lt)) (hb.below h.below),
      fun s v h => step_calls rfl (wanted_of (b := false) (want := false) rfl rfl (h.dep 9 rfl)) (call2 Try.call14) (add_c (h.dep 10 rfl) (h.dep 11 rfl) (by omega) (by omega)),
      fun s v h => step_val rfl (wanted_of (b := false) (want := false) rfl rfl (h.dep 9 rfl)) (load_zb (h.same 4 rfl) (zb.below h.below zb.lt)) (hb.below h.below),
      fun s v h => step_val rfl (wanted_of (b := false) (want := false) rfl rfl (h.dep 9 rfl)) (load_zb (h.same 3 rfl) (za.below h.below za.lt)) (ha.below h.below),
      fun s v h => step_calls rfl (wanted_of (b := false) (want := false) rfl rfl (h.dep 9 rfl)) (call2 Try.call14) (add_c (h.dep 13 rfl) (h.dep 14 rfl) (by omega) (by omega)),
      fun s v h => step_calls rfl (wanted_of (b := false) (want := false) rfl rfl (h.dep 9 rfl)) (call2 Try.call12) (eq_b (eq_c (h.dep 12 rfl) (h.dep 15 rfl) (Int.add_comm a b))),
      fun s v h => step_val rfl (wanted_of (b := false) (want := false) rfl rfl (h.dep 9 rfl)) (not1 (h.dep 16 rfl)) rfl,
      fun s v h => step_val rfl rfl (pick1 (h.dep 9 rfl)) (h.dep 17 rfl),
      fun s v h => step_val rfl rfl (move1 rfl) (h.dep 18 rfl),
      fun s v h => step_val rfl (wanted_of (b := false) (want := false) rfl rfl (h.dep 19 rfl)) (load_zb (h.same 3 rfl) (za.below h.below za.lt)) (ha.below h.below),
      fun s v h => step_val rfl (wanted_of (b := false) (want := false) rfl rfl (h.dep 19 rfl)) (load_zb (h.same 4 rfl) (zb.below h.below zb.lt)) (hb.below h.below),
      fun s v h => step_calls rfl (wanted_of (b := false) (want := false) rfl rfl (h.dep 19 rfl)) (call2 Try.call16) (mul_c (h.dep 20 rfl) (h.dep 21 rfl) (by omega) (by omega)),
      fun s v h => step_val rfl (wanted_of (b := false) (want := false) rfl rfl (h.dep 19 rfl)) (load_zb (h.same 4 rfl) (zb.below h.below zb.lt)) (hb.below h.below),
      fun s v h => step_val rfl (wanted_of (b := false) (want := false) rfl rfl (h.dep 19 rfl)) (load_zb (h.same 3 rfl) (za.below h.below za.lt)) (ha.below h.below),
      fun s v h => step_calls rfl (wanted_of (b := false) (want := false) rfl rfl (h.dep 19 rfl)) (call2 Try.call16) (mul_c (h.dep 23 rfl) (h.dep 24 rfl) (by omega) (by omega)),
      fun s v h => step_calls rfl (wanted_of (b := false) (want := false) rfl rfl (h.dep 19 rfl)) (call2 Try.call12) (eq_b (eq_c (h.dep 22 rfl) (h.dep 25 rfl) (Int.mul_comm a b))),
      fun s v h => step_val rfl (wanted_of (b := false) (want := false) rfl rfl (h.dep 19 rfl)) (not1 (h.dep 26 rfl)) rfl,
      fun s v h => step_val rfl rfl (pick1 (h.dep 19 rfl)) (h.dep 27 rfl), trivial⟩
  intro g v hB hF
  have e28 := hF 28 (by decide)
  simp only [fillL, Nat.reduceAdd, List.setIfInBounds_toArray, List.set_cons_zero, List.set_cons_succ]
  replace e28 : g 28 = .bool false := e28
  rw [e28]
  clear e28 hF
  have hW2 := below_step hW1 hB
  have za := za.below hB za.lt
  have zb := zb.below hB zb.lt
  have zc := zc.below hB zc.lt
  have ha := ha.below hB
  have hb := hb.below hB
  have hd := hd.below hB
  have hB3 := below_drawn (Below.refl v.heap.size v) ⟨1, rfl⟩
  have za' := za.below hB3 za.lt
  have zb' := zb.below hB3 zb.lt
  have zc' := zc.below hB3 zc.lt
  have ha' := ha.below hB3
  have hb' := hb.below hB3
  have hd' := hd.below hB3
  have hW3 := below_step hW2 hB3
  clear za zb zc ha hb hd hB hB3 hW2
  go_wp2_with fail
  have L2_0 : (digs (b + d).natAbs).length ≤ 1048577 := len_add' lb ld (by omega) (by omega)
  have L2_1 : (digs (a * (b + d)).natAbs).length ≤ 2097153 := len_mul la L2_0
  have L2_2 : (digs (a * b).natAbs).length ≤ 2097152 := len_mul la lb
  have L2_3 : (digs (a * d).natAbs).length ≤ 2097152 := len_mul la ld
  have L2_4 : (digs ((a * b) + (a * d)).natAbs).length ≤ 2097153 := len_add' L2_2 L2_3 (by omega) (by omega)
  have L2_5 : (digs ((a * b) * d).natAbs).length ≤ 3145728 := len_mul L2_2 ld
  have L2_6 : (digs (b * d).natAbs).length ≤ 2097152 := len_mul lb ld
  have L2_7 : (digs (a * (b * d)).natAbs).length ≤ 3145728 := len_mul la L2_6
  refine wp_region_facts' [.az 1048576 a, .az 1048576 b, .az 1048576 d, .cz (b + d), .cz (a * (b + d)), .az 1048576 a, .az 1048576 b, .cz (a * b), .az 1048576 a, .az 1048576 d, .cz (a * d), .cz ((a * b) + (a * d)), .is (.bool true), .is (.bool true), .az 1048576 a, .az 1048576 b, .cz (a * b), .az 1048576 d, .cz ((a * b) * d), .az 1048576 a, .az 1048576 b, .az 1048576 d, .cz (b * d), .cz (a * (b * d)), .is (.bool true), .is (.bool true), .is (.bool true)] (by kernel_rfl) (by kernel_rfl) ?_ ?_
  · exact ⟨fun s v h => step_val rfl rfl (load_zb (h.same 3 rfl) (za'.below h.below za'.lt)) (ha'.below h.below),
      fun s v h => step_val rfl rfl (load_zb (h.same 4 rfl) (zb'.below h.below zb'.lt)) (hb'.below h.below),
      fun s v h => step_val rfl rfl (load_zb (h.same 5 rfl) (zc'.below h.below zc'.lt)) (hd'.below h.below),
      fun s v h => step_calls rfl rfl (call2 Try.call14) (add_c (h.dep 1 rfl) (h.dep 2 rfl) (by omega) (by omega)),
      fun s v h => step_calls rfl rfl (call2 Try.call16) (mul_c (h.dep 0 rfl) (Cz.az (h.dep 3 rfl) L2_0) (by omega) (by omega)),
      fun s v h => step_val rfl rfl (load_zb (h.same 3 rfl) (za'.below h.below za'.lt)) (ha'.below h.below),
      fun s v h => step_val rfl rfl (load_zb (h.same 4 rfl) (zb'.below h.below zb'.lt)) (hb'.below h.below),
      fun s v h => step_calls rfl rfl (call2 Try.call16) (mul_c (h.dep 5 rfl) (h.dep 6 rfl) (by omega) (by omega)),
      fun s v h => step_val rfl rfl (load_zb (h.same 3 rfl) (za'.below h.below za'.lt)) (ha'.below h.below),
      fun s v h => step_val rfl rfl (load_zb (h.same 5 rfl) (zc'.below h.below zc'.lt)) (hd'.below h.below),
      fun s v h => step_calls rfl rfl (call2 Try.call16) (mul_c (h.dep 8 rfl) (h.dep 9 rfl) (by omega) (by omega)),
      fun s v h => step_calls rfl rfl (call2 Try.call14) (add_c (Cz.az (h.dep 7 rfl) L2_2) (Cz.az (h.dep 10 rfl) L2_3) (by omega) (by omega)),
      fun s v h => step_calls rfl rfl (call2 Try.call12) (eq_b (eq_c (h.dep 4 rfl) (h.dep 11 rfl) (Int.mul_add a b d))),
      fun s v h => step_val rfl rfl (move1 rfl) (h.dep 12 rfl),
      fun s v h => step_val rfl (wanted_of (b := true) (want := true) rfl rfl (h.dep 13 rfl)) (load_zb (h.same 3 rfl) (za'.below h.below za'.lt)) (ha'.below h.below),
      fun s v h => step_val rfl (wanted_of (b := true) (want := true) rfl rfl (h.dep 13 rfl)) (load_zb (h.same 4 rfl) (zb'.below h.below zb'.lt)) (hb'.below h.below),
      fun s v h => step_calls rfl (wanted_of (b := true) (want := true) rfl rfl (h.dep 13 rfl)) (call2 Try.call16) (mul_c (h.dep 14 rfl) (h.dep 15 rfl) (by omega) (by omega)),
      fun s v h => step_val rfl (wanted_of (b := true) (want := true) rfl rfl (h.dep 13 rfl)) (load_zb (h.same 5 rfl) (zc'.below h.below zc'.lt)) (hd'.below h.below),
      fun s v h => step_calls rfl (wanted_of (b := true) (want := true) rfl rfl (h.dep 13 rfl)) (call2 Try.call16) (mul_c (Cz.az (h.dep 16 rfl) L2_2) (h.dep 17 rfl) (by omega) (by omega)),
      fun s v h => step_val rfl (wanted_of (b := true) (want := true) rfl rfl (h.dep 13 rfl)) (load_zb (h.same 3 rfl) (za'.below h.below za'.lt)) (ha'.below h.below),
      fun s v h => step_val rfl (wanted_of (b := true) (want := true) rfl rfl (h.dep 13 rfl)) (load_zb (h.same 4 rfl) (zb'.below h.below zb'.lt)) (hb'.below h.below),
      fun s v h => step_val rfl (wanted_of (b := true) (want := true) rfl rfl (h.dep 13 rfl)) (load_zb (h.same 5 rfl) (zc'.below h.below zc'.lt)) (hd'.below h.below),
      fun s v h => step_calls rfl (wanted_of (b := true) (want := true) rfl rfl (h.dep 13 rfl)) (call2 Try.call16) (mul_c (h.dep 20 rfl) (h.dep 21 rfl) (by omega) (by omega)),
      fun s v h => step_calls rfl (wanted_of (b := true) (want := true) rfl rfl (h.dep 13 rfl)) (call2 Try.call16) (mul_c (h.dep 19 rfl) (Cz.az (h.dep 22 rfl) L2_6) (by omega) (by omega)),
      fun s v h => step_calls rfl (wanted_of (b := true) (want := true) rfl rfl (h.dep 13 rfl)) (call2 Try.call12) (eq_b (eq_c (h.dep 18 rfl) (h.dep 23 rfl) (Int.mul_assoc a b d))),
      fun s v h => step_val rfl rfl (pick1 (h.dep 13 rfl)) (h.dep 24 rfl),
      fun s v h => step_val rfl rfl (assign1 rfl) (h.dep 25 rfl), trivial⟩
  intro g v hB hF
  have e26 := hF 26 (by decide)
  simp only [fillL, Nat.reduceAdd, List.setIfInBounds_toArray, List.set_cons_zero, List.set_cons_succ]
  replace e26 : g 26 = .bool true := e26
  rw [e26]
  clear e26 hF
  have hW4 := below_step hW3 hB
  go_wp2_with fail
  exact bodyPost_ret (results_tmp rfl _ _ _) rfl ⟨rfl, hW4⟩
end Go.Proofs.Ytkidgeeedigkhaa
