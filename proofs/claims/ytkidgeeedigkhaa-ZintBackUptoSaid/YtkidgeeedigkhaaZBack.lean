/- The law ZintBack. -/
import Derived.Test.YtkidgeeedigkhaaYRead
import Derived.Test.YtkidgeeedigkhaaYShift
import Derived.Test.YtkidgeeedigkhaaYCmp
import Derived.Test.YtkidgeeedigkhaaYEq
import Derived.Test.YtkidgeeedigkhaaNumK
namespace Go.Proofs.Ytkidgeeedigkhaa
open Go.RowKit

theorem two_arg {P : Program} {f : FuncId} {y k m : Value} {v : World} {Q : Ending → World → Prop} (e : k = m) (h : Calls P f #[y, m] v Q) : Calls P f #[y, k] v Q := by
  subst e
  exact h
theorem ztext_k {w : World} {x : Value} {z : Int} {N : Nat} (h : Az N w x z) (hN : N ≤ 4398046511104) : Calls Try.prog 52 #[x] w (Ret (.is (.string (ztxt z))) w) := by
  obtain ⟨neg, A, n, c, l, rfl, hS, rfl, hn⟩ := h
  exact (ztext_calls w neg A n c l hS (by omega)).mono fun _ _ h => ret_is h

set_option maxHeartbeats 4000000 in
set_option maxRecDepth 8000 in
theorem zintBack_walk {w : World} {x : Value} {z : Int} {s : ByteArray} (h0 : Az 1048576 w x z) (c1 : decide ((blen z.natAbs : Int) < 10000) = true → ∀ (v : World) (y : Value), y = .string (ztxt z) → Calls Try.prog 51 #[y] v (Ret (.tup3 (.cz z) (.is (.int .i64 0)) (.is (.int .i64 0))) v)) {zs ats es : Int} (c2 : ∀ (v : World) (y : Value), y = .string s → Calls Try.prog 51 #[y] v (Ret (.tup3 (.cz zs) (.is (.int .i64 ats)) (.is (.int .i64 es))) v)) (hs : es = 0 → ((ztxt zs).toList == s.toList) = true ∧ (digs zs.natAbs).length ≤ 70000) {e m : Nat} (he : max 0 ((blen z.natAbs : Int) - 53) = (e : Int)) (hm : z.natAbs / 2 ^ e = m) (hm1 : m < 9007199254740992) (hm2 : 0 < e → 4503599627370496 ≤ m) (lm : (digs (m : Int).natAbs).length ≤ 2) (lm1 : (digs ((m : Int) + 1).natAbs).length ≤ 2) {b : Bool} (hb : (((digs (z.natAbs % 2 ^ e)).length : Int) == 0) = b) (p1 : decide (((m : Int) * ((2 ^ e : Nat) : Int) - (z.natAbs : Int)).sign ≤ 0) = true) (p2 : decide (0 < ((((m : Int) + 1) * ((2 ^ e : Nat) : Int)) - (z.natAbs : Int)).sign) = true) (p3 : (b == decide ((m : Int) * ((2 ^ e : Nat) : Int) = (z.natAbs : Int))) = true)  : Calls Try.prog 10 #[x, .string s] w (Ret (.is (.bool true)) w) := by
  have la0 := h0.len
  obtain ⟨na0, A0, n0, c0, M0, rfl, hm0, hz0⟩ := h0.parts
  have gA : decide (9007199254740992 ≤ (m : Int)) = false := decide_eq_false (by omega)
  have gB : decide ((e : Int) < 0) = false := decide_eq_false (by omega)
  have T0 : Below w.heap.size w w := Below.refl _ _
  go_enter Try.func10, Try.ntmps10
  refine wp_seq ?_
  have HB : w.heap.size ≤ w.heap.size := T0.size
  refine wp_plan_seq [.new 2 (some (24, #[.bool na0, .slice A0 n0 c0])), .val (.is (.bool false))] [] [] w.heap.size (by kernel_rfl) (by kernel_rfl) trivial HB ?_ ?_
  · exact ⟨fun s v h => does_new rfl rfl (x_box_z (h.same 0 rfl)) (okz _ _ _ _) rfl (.inr rfl),
      fun s v h => does_val rfl rfl (x_assign) rfl, trivial⟩
  intro g1 ts v1 hts E1
  simp only [fillL, Nat.reduceAdd, List.setIfInBounds_toArray, List.set_cons_zero, List.set_cons_succ] at hts
  subst hts
  have T2 : Below w.heap.size w v1 := T0.trans E1.below
  have f3 := h0.mono E1.mono
  have f4 := hm0.mono E1.mono
  obtain ⟨q6, p7, l8, o9, b10⟩ : ∃ q, g1 0 = .pointer (some ⟨q, 0, none⟩) ∧ w.heap.size ≤ q ∧ OkB v1 q 2 ∧ Bx v1 q 24 #[.bool na0, .slice A0 n0 c0] := E1.facts 0 (by decide)
  have h11 : w.heap.size ≤ q6 := Nat.le_trans HB l8
  refine then_normal ?_
  refine wp_seq ?_
  refine wp_seq ?_
  have HB : w.heap.size ≤ v1.heap.size := T2.size
  refine wp_plan_seq [.val (.is (.bool true)), .val (.is (.bool false))] [] [] w.heap.size (by kernel_rfl) (by kernel_rfl) trivial HB ?_ ?_
  · exact ⟨fun s v h => does_call rfl rfl (x_call0 Try.call11) (alive_k),
      fun s v h => does_val rfl rfl (x_not (h.dep 0 rfl)) rfl, trivial⟩
  intro g12 ts v12 hts E12
  simp only [fillL, Nat.reduceAdd, List.setIfInBounds_toArray, List.set_cons_zero, List.set_cons_succ] at hts
  subst hts
  have T13 : Below w.heap.size w v12 := T2.trans E12.below
  have l14 : q6 < v1.heap.size := b10.lt
  have b15 : Bx v12 q6 24 #[.bool na0, .slice A0 n0 c0] := (E12.far q6 b10.lt (by simp)).trans b10
  have f16 := f3.mono E12.mono
  have f17 := f4.mono E12.mono
  have e19 : g12 1 = (.bool false) := E12.facts 1 (by decide)
  refine then_normal ?_
  refine wp_cond_false e19 ?_
  refine wp_skip ?_
  refine then_normal ?_
  refine wp_seq ?_
  refine wp_cut_v 157 (fun y wL => y 2 = .pointer (some ⟨q6, 0, none⟩) ∧ y 1 = (.string s) ∧ Below w.heap.size w wL ∧ Bx wL q6 24 #[.bool na0, .slice A0 n0 c0] ∧ Az 1048576 wL (.agg #[.bool na0, .slice A0 n0 c0]) z ∧ Nz 1048576 wL (.slice A0 n0 c0) M0 ∧ (True)) ?_ ?_
  · skip
    refine wp_seq ?_
    rcases d0 : (decide ((blen z.natAbs : Int) < 10000)) with _ | _
    · skip
      have HB : w.heap.size ≤ v12.heap.size := T13.size
      refine wp_plan_seq [.val (.az 1048576 z), .val (.is (.int .i64 (blen z.natAbs))), .val (.is (.bool false))] [] [] w.heap.size (by kernel_rfl) (by kernel_rfl) trivial HB ?_ ?_
      · exact ⟨fun s v h => does_val rfl rfl (x_load_z ((h.same 2 rfl).trans p7) ((h.far q6 b15.lt (by simp)).trans b15)) (f16.mono h.mono),
      fun s v h => does_call rfl rfl (x_call1 Try.call20) (zbits_k (h.dep 0 rfl)),
      fun s v h => does_val rfl rfl (x_lss (h.dep 1 rfl) rfl) (congrArg Value.bool d0), trivial⟩
      intro g20 ts v20 hts E20
      simp only [fillL, Nat.reduceAdd, List.setIfInBounds_toArray, List.set_cons_zero, List.set_cons_succ] at hts
      subst hts
      have T21 : Below w.heap.size w v20 := T13.trans E20.below
      have l22 : q6 < v12.heap.size := b15.lt
      have b23 : Bx v20 q6 24 #[.bool na0, .slice A0 n0 c0] := (E20.far q6 b15.lt (by simp)).trans b15
      have f24 := f16.mono E20.mono
      have f25 := f17.mono E20.mono
      have e28 : g20 2 = (.bool false) := E20.facts 2 (by decide)
      refine then_normal ?_
      refine wp_cond_false e28 ?_
      refine wp_skip ?_
      refine then_normal ?_
      exact ⟨rfl, rfl, p7, rfl, T21, b23, f24, f25, trivial⟩
    · skip
      have HB : w.heap.size ≤ v12.heap.size := T13.size
      refine wp_plan_seq [.val (.az 1048576 z), .val (.is (.int .i64 (blen z.natAbs))), .val (.is (.bool true))] [] [] w.heap.size (by kernel_rfl) (by kernel_rfl) trivial HB ?_ ?_
      · exact ⟨fun s v h => does_val rfl rfl (x_load_z ((h.same 2 rfl).trans p7) ((h.far q6 b15.lt (by simp)).trans b15)) (f16.mono h.mono),
      fun s v h => does_call rfl rfl (x_call1 Try.call20) (zbits_k (h.dep 0 rfl)),
      fun s v h => does_val rfl rfl (x_lss (h.dep 1 rfl) rfl) (congrArg Value.bool d0), trivial⟩
      intro g29 ts v29 hts E29
      simp only [fillL, Nat.reduceAdd, List.setIfInBounds_toArray, List.set_cons_zero, List.set_cons_succ] at hts
      subst hts
      have T30 : Below w.heap.size w v29 := T13.trans E29.below
      have l31 : q6 < v12.heap.size := b15.lt
      have b32 : Bx v29 q6 24 #[.bool na0, .slice A0 n0 c0] := (E29.far q6 b15.lt (by simp)).trans b15
      have f33 := f16.mono E29.mono
      have f34 := f17.mono E29.mono
      have e37 : g29 2 = (.bool true) := E29.facts 2 (by decide)
      refine then_normal ?_
      refine wp_cond_true e37 ?_
      refine wp_seq ?_
      have HB : w.heap.size ≤ v29.heap.size := T30.size
      refine wp_plan_seq [.val (.az 1048576 z), .val (.is (.string (ztxt z))), .val (.tup3 (.cz z) (.is (.int .i64 0)) (.is (.int .i64 0))), .val (.tup3 (.cz z) (.is (.int .i64 0)) (.is (.int .i64 0))), .val (.cz z), .val (.is (.int .i64 0)), .val (.is (.int .i64 0)), .new 2 none, .put 5 29, .val (.is (.int .i64 0)), .val (.is (.int .i64 0))] [] [] w.heap.size (by kernel_rfl) (by kernel_rfl) trivial HB ?_ ?_
      · exact ⟨fun s v h => does_val rfl rfl (x_load_z ((h.same 2 rfl).trans p7) ((h.far q6 b32.lt (by simp)).trans b32)) (f33.mono h.mono),
      fun s v h => does_call rfl rfl (x_call1 Try.call52) (ztext_k (h.dep 0 rfl) (by omega)),
      fun s v h => does_call rfl rfl (x_call1 Try.call51) (c1 d0 _ _ (h.dep 1 rfl)),
      fun s v h => does_val rfl rfl (x_move) (h.dep 2 rfl),
      fun s v h => by obtain ⟨r0, r1, r2, e, f0, f1, f2⟩ := tup3_at (h.dep 3 rfl); exact does_val rfl rfl (x_ext e rfl) f0,
      fun s v h => by obtain ⟨r0, r1, r2, e, f0, f1, f2⟩ := tup3_at (h.dep 3 rfl); exact does_val rfl rfl (x_ext e rfl) f1,
      fun s v h => by obtain ⟨r0, r1, r2, e, f0, f1, f2⟩ := tup3_at (h.dep 3 rfl); exact does_val rfl rfl (x_ext e rfl) f2,
      fun s v h => does_new rfl rfl x_alloc_z (okz _ _ _ _) rfl (.inl rfl),
      fun s v h => by obtain ⟨q, e1, e2, e3⟩ := new_at (h.dep 7 rfl); exact does_put_z rfl rfl e1 (h.dep 4 rfl).shape e3 (Nat.le_trans HB e2),
      fun s v h => does_val rfl rfl (x_assign) (h.dep 5 rfl),
      fun s v h => does_val rfl rfl (x_assign) (h.dep 6 rfl), trivial⟩
      intro g38 ts v38 hts E38
      simp only [fillL, Nat.reduceAdd, List.setIfInBounds_toArray, List.set_cons_zero, List.set_cons_succ] at hts
      subst hts
      have T39 : Below w.heap.size w v38 := T30.trans E38.below
      have l40 : q6 < v29.heap.size := b32.lt
      have b41 : Bx v38 q6 24 #[.bool na0, .slice A0 n0 c0] := (E38.far q6 b32.lt (by simp)).trans b32
      have f42 := f33.mono E38.mono
      have f43 := f34.mono E38.mono
      have f47 : Cz v38 (g38 4) z := E38.facts 4 (by decide)
      have e50 : g38 9 = (.int .i64 0) := E38.facts 9 (by decide)
      have e51 : g38 10 = (.int .i64 0) := E38.facts 10 (by decide)
      obtain ⟨q52, p53, l54, o55⟩ : ∃ q, g38 7 = .pointer (some ⟨q, 0, none⟩) ∧ v29.heap.size ≤ q ∧ OkB v38 q 2 := E38.facts 7 (by decide)
      have h56 : w.heap.size ≤ q52 := Nat.le_trans HB l54
      obtain ⟨t58, x60, A61, m62, c63, e64, b59⟩ := put_info (E38.facts 8 (by decide)) p53 f47.shape
      have f65 : Cz v38 (.agg #[.bool x60, .slice A61 m62 c63]) z := f47.at e64.symm
      refine then_normal ?_
      refine wp_seq ?_
      have HB : w.heap.size ≤ v38.heap.size := T39.size
      refine wp_plan_any [.val (.is (.int .i64 0)), .val (.is (.bool false)), .val (.is (.bool false)), .val (.is (.int .i64 0)), .val (.is (.bool false)), .val (.is (.bool false)), .val (.is (.bool false)), .val (.cz z), .val (.az 1048576 z), .val (.cz z), .val (.is (.bool true)), .val (.is (.bool false)), .val (.is (.bool false))] [] [] w.heap.size (by kernel_rfl) (by kernel_rfl) (by kernel_rfl) trivial HB ?_ ?_
      · exact ⟨fun s v h => does_val rfl rfl (x_move) ((h.same 7 rfl).trans e51),
      fun s v h => does_val rfl rfl (x_neq_err (h.dep 0 rfl) rfl) rfl,
      fun s v h => does_val rfl rfl (x_move) (h.dep 1 rfl),
      fun s v h => does_val rfl (wanted_by (b := false) (want := false) rfl rfl (h.dep 2 rfl)) (x_move) ((h.same 6 rfl).trans e50),
      fun s v h => does_val rfl (wanted_by (b := false) (want := false) rfl rfl (h.dep 2 rfl)) (x_neq_int (h.dep 3 rfl) rfl) rfl,
      fun s v h => does_val rfl rfl (x_pick (h.dep 2 rfl)) (h.dep 4 rfl),
      fun s v h => does_val rfl rfl (x_move) (h.dep 5 rfl),
      fun s v h => does_val rfl (wanted_by (b := false) (want := false) rfl rfl (h.dep 6 rfl)) (x_load_z ((h.same 5 rfl).trans p53) ((h.far q52 b59.lt (by simp)).trans b59)) (f65.mono ((Mono.drew _).trans h.mono)),
      fun s v h => does_val rfl (wanted_by (b := false) (want := false) rfl rfl (h.dep 6 rfl)) (x_load_z ((h.same 2 rfl).trans p7) ((h.far q6 b41.lt (by simp)).trans b41)) (f42.mono ((Mono.drew _).trans h.mono)),
      fun s v h => does_call rfl (wanted_by (b := false) (want := false) rfl rfl (h.dep 6 rfl)) (x_call1 Try.call15) (form_k (h.dep 8 rfl)),
      fun s v h => does_call rfl (wanted_by (b := false) (want := false) rfl rfl (h.dep 6 rfl)) (x_call2 Try.call12) (eq_k (h.dep 7 rfl) (h.dep 9 rfl) rfl),
      fun s v h => does_val rfl (wanted_by (b := false) (want := false) rfl rfl (h.dep 6 rfl)) (x_not (h.dep 10 rfl)) rfl,
      fun s v h => does_val rfl rfl (x_pick (h.dep 6 rfl)) (h.dep 11 rfl), trivial⟩
      intro g66 ts v66 hts E66
      simp only [fillL, Nat.reduceAdd, List.setIfInBounds_toArray, List.set_cons_zero, List.set_cons_succ] at hts
      subst hts
      have T67 : Below w.heap.size w v66 := (below_toDrew T39).trans E66.below
      have l68 : q6 < v38.heap.size := b41.lt
      have l69 : q52 < v38.heap.size := b59.lt
      have b70 : Bx v66 q6 24 #[.bool na0, .slice A0 n0 c0] := (E66.far q6 b41.lt (by simp)).trans b41
      have f72 := f42.mono ((Mono.drew _).trans E66.mono)
      have f73 := f43.mono ((Mono.drew _).trans E66.mono)
      have e90 : g66 12 = (.bool false) := E66.facts 12 (by decide)
      refine then_normal ?_
      refine wp_cond_false e90 ?_
      refine wp_skip ?_
      refine then_normal ?_
      exact ⟨rfl, rfl, p7, rfl, T67, b70, f72, f73, trivial⟩
  rintro y91 v91 ⟨p92, p93, T94, b95, f96, m97, hJ⟩
  have hlit : litv 157 y91 = #[y91 0, y91 1, y91 2, y91 3, y91 4, y91 5, y91 6, y91 7, y91 8, y91 9, y91 10, y91 11, y91 12, y91 13, y91 14, y91 15, y91 16, y91 17, y91 18, y91 19, y91 20, y91 21, y91 22, y91 23, y91 24, y91 25, y91 26, y91 27, y91 28, y91 29, y91 30, y91 31, y91 32, y91 33, y91 34, y91 35, y91 36, y91 37, y91 38, y91 39, y91 40, y91 41, y91 42, y91 43, y91 44, y91 45, y91 46, y91 47, y91 48, y91 49, y91 50, y91 51, y91 52, y91 53, y91 54, y91 55, y91 56, y91 57, y91 58, y91 59, y91 60, y91 61, y91 62, y91 63, y91 64, y91 65, y91 66, y91 67, y91 68, y91 69, y91 70, y91 71, y91 72, y91 73, y91 74, y91 75, y91 76, y91 77, y91 78, y91 79, y91 80, y91 81, y91 82, y91 83, y91 84, y91 85, y91 86, y91 87, y91 88, y91 89, y91 90, y91 91, y91 92, y91 93, y91 94, y91 95, y91 96, y91 97, y91 98, y91 99, y91 100, y91 101, y91 102, y91 103, y91 104, y91 105, y91 106, y91 107, y91 108, y91 109, y91 110, y91 111, y91 112, y91 113, y91 114, y91 115, y91 116, y91 117, y91 118, y91 119, y91 120, y91 121, y91 122, y91 123, y91 124, y91 125, y91 126, y91 127, y91 128, y91 129, y91 130, y91 131, y91 132, y91 133, y91 134, y91 135, y91 136, y91 137, y91 138, y91 139, y91 140, y91 141, y91 142, y91 143, y91 144, y91 145, y91 146, y91 147, y91 148, y91 149, y91 150, y91 151, y91 152, y91 153, y91 154, y91 155, y91 156] := rfl
  rw [hlit]
  clear hlit
  refine wp_seq ?_
  have HB : w.heap.size ≤ v91.heap.size := T94.size
  refine wp_plan_seq [.val (.is (.string s)), .val (.tup3 (.cz zs) (.is (.int .i64 ats)) (.is (.int .i64 es))), .val (.tup3 (.cz zs) (.is (.int .i64 ats)) (.is (.int .i64 es))), .val (.cz zs), .val (.is (.int .i64 ats)), .val (.is (.int .i64 es)), .new 2 none, .put 8 48, .val (.is (.int .i64 ats)), .val (.is (.int .i64 es))] [] [] w.heap.size (by kernel_rfl) (by kernel_rfl) trivial HB ?_ ?_
  · exact ⟨fun s v h => does_val rfl rfl (x_move) ((h.same 1 rfl).trans p93),
      fun s v h => does_call rfl rfl (x_call1 Try.call51) (c2 _ _ (h.dep 0 rfl)),
      fun s v h => does_val rfl rfl (x_move) (h.dep 1 rfl),
      fun s v h => by obtain ⟨r0, r1, r2, e, f0, f1, f2⟩ := tup3_at (h.dep 2 rfl); exact does_val rfl rfl (x_ext e rfl) f0,
      fun s v h => by obtain ⟨r0, r1, r2, e, f0, f1, f2⟩ := tup3_at (h.dep 2 rfl); exact does_val rfl rfl (x_ext e rfl) f1,
      fun s v h => by obtain ⟨r0, r1, r2, e, f0, f1, f2⟩ := tup3_at (h.dep 2 rfl); exact does_val rfl rfl (x_ext e rfl) f2,
      fun s v h => does_new rfl rfl x_alloc_z (okz _ _ _ _) rfl (.inl rfl),
      fun s v h => by obtain ⟨q, e1, e2, e3⟩ := new_at (h.dep 6 rfl); exact does_put_z rfl rfl e1 (h.dep 3 rfl).shape e3 (Nat.le_trans HB e2),
      fun s v h => does_val rfl rfl (x_assign) (h.dep 4 rfl),
      fun s v h => does_val rfl rfl (x_assign) (h.dep 5 rfl), trivial⟩
  intro g98 ts v98 hts E98
  simp only [fillL, Nat.reduceAdd, List.setIfInBounds_toArray, List.set_cons_zero, List.set_cons_succ] at hts
  subst hts
  have T99 : Below w.heap.size w v98 := T94.trans E98.below
  have l100 : q6 < v91.heap.size := b95.lt
  have b101 : Bx v98 q6 24 #[.bool na0, .slice A0 n0 c0] := (E98.far q6 b95.lt (by simp)).trans b95
  have f102 := f96.mono E98.mono
  have f103 := m97.mono E98.mono
  have f105 : Cz v98 (g98 3) zs := E98.facts 3 (by decide)
  have e109 : g98 9 = (.int .i64 es) := E98.facts 9 (by decide)
  obtain ⟨q110, p111, l112, o113⟩ : ∃ q, g98 6 = .pointer (some ⟨q, 0, none⟩) ∧ v91.heap.size ≤ q ∧ OkB v98 q 2 := E98.facts 6 (by decide)
  have h114 : w.heap.size ≤ q110 := Nat.le_trans HB l112
  obtain ⟨t116, x118, A119, m120, c121, e122, b117⟩ := put_info (E98.facts 7 (by decide)) p111 f105.shape
  have f123 : Cz v98 (.agg #[.bool x118, .slice A119 m120 c121]) zs := f105.at e122.symm
  refine then_normal ?_
  refine wp_seq ?_
  refine wp_cut_v 157 (fun y wL => y 2 = .pointer (some ⟨q6, 0, none⟩) ∧ y 8 = .pointer (some ⟨q110, 0, none⟩) ∧ Below w.heap.size w wL ∧ Bx wL q6 24 #[.bool na0, .slice A0 n0 c0] ∧ Az 1048576 wL (.agg #[.bool na0, .slice A0 n0 c0]) z ∧ Bx wL q110 t116 #[.bool x118, .slice A119 m120 c121] ∧ Cz wL (.agg #[.bool x118, .slice A119 m120 c121]) zs ∧ Nz 1048576 wL (.slice A0 n0 c0) M0 ∧ (True)) ?_ ?_
  · skip
    refine wp_seq ?_
    rcases d1 : (es == 0) with _ | _
    · skip
      have HB : w.heap.size ≤ v98.heap.size := T99.size
      refine wp_plan_seq [.val (.is (.int .i64 es)), .val (.is (.bool false)), .val (.is (.bool false)), .val (.is undef), .val (.is undef), .val (.is undef), .val (.is undef), .val (.is (.bool false))] [] [] w.heap.size (by kernel_rfl) (by kernel_rfl) trivial HB ?_ ?_
      · exact ⟨fun s v h => does_val rfl rfl (x_move) ((h.same 10 rfl).trans e109),
      fun s v h => does_val rfl rfl (x_eql_err (h.dep 0 rfl) rfl) (congrArg Value.bool d1),
      fun s v h => does_val rfl rfl (x_move) (h.dep 1 rfl),
      fun s v h => does_skip rfl (wanted_by (b := false) (want := true) rfl rfl (h.dep 2 rfl)) rfl,
      fun s v h => does_skip rfl (wanted_by (b := false) (want := true) rfl rfl (h.dep 2 rfl)) rfl,
      fun s v h => does_skip rfl (wanted_by (b := false) (want := true) rfl rfl (h.dep 2 rfl)) rfl,
      fun s v h => does_skip rfl (wanted_by (b := false) (want := true) rfl rfl (h.dep 2 rfl)) rfl,
      fun s v h => does_val rfl rfl (x_pick (h.dep 2 rfl)) rfl, trivial⟩
      intro g124 ts v124 hts E124
      simp only [fillL, Nat.reduceAdd, List.setIfInBounds_toArray, List.set_cons_zero, List.set_cons_succ] at hts
      subst hts
      have T125 : Below w.heap.size w v124 := T99.trans E124.below
      have l126 : q6 < v98.heap.size := b101.lt
      have l127 : q110 < v98.heap.size := b117.lt
      have b128 : Bx v124 q6 24 #[.bool na0, .slice A0 n0 c0] := (E124.far q6 b101.lt (by simp)).trans b101
      have b129 : Bx v124 q110 t116 #[.bool x118, .slice A119 m120 c121] := (E124.far q110 b117.lt (by simp)).trans b117
      have f130 := f102.mono E124.mono
      have f131 := f103.mono E124.mono
      have f133 := f123.mono E124.mono
      have e141 : g124 7 = (.bool false) := E124.facts 7 (by decide)
      refine then_normal ?_
      refine wp_cond_false e141 ?_
      refine wp_skip ?_
      refine then_normal ?_
      exact ⟨rfl, rfl, p92, p111, T125, b128, f130, b129, f133, f131, trivial⟩
    · skip
      obtain ⟨d2, lzs⟩ := hs (beq_iff_eq.1 d1)
      have HB : w.heap.size ≤ v98.heap.size := T99.size
      refine wp_plan_seq [.val (.is (.int .i64 es)), .val (.is (.bool true)), .val (.is (.bool true)), .val (.cz zs), .val (.is (.string (ztxt zs))), .val (.is (.string s)), .val (.is (.bool false)), .val (.is (.bool false))] [] [] w.heap.size (by kernel_rfl) (by kernel_rfl) trivial HB ?_ ?_
      · exact ⟨fun s v h => does_val rfl rfl (x_move) ((h.same 10 rfl).trans e109),
      fun s v h => does_val rfl rfl (x_eql_err (h.dep 0 rfl) rfl) (congrArg Value.bool d1),
      fun s v h => does_val rfl rfl (x_move) (h.dep 1 rfl),
      fun s v h => does_val rfl (wanted_by (b := true) (want := true) rfl rfl (h.dep 2 rfl)) (x_load_z ((h.same 8 rfl).trans p111) ((h.far q110 b117.lt (by simp)).trans b117)) (f123.mono h.mono),
      fun s v h => does_call rfl (wanted_by (b := true) (want := true) rfl rfl (h.dep 2 rfl)) (x_call1 Try.call52) (ztext_k ((h.dep 3 rfl).az (N := 70000) lzs) (by omega)),
      fun s v h => does_val rfl (wanted_by (b := true) (want := true) rfl rfl (h.dep 2 rfl)) (x_move) ((h.same 1 rfl).trans p93),
      fun s v h => does_val rfl (wanted_by (b := true) (want := true) rfl rfl (h.dep 2 rfl)) (x_neq_str (h.dep 4 rfl) (h.dep 5 rfl)) (congrArg (fun x => Value.bool (!x)) d2),
      fun s v h => does_val rfl rfl (x_pick (h.dep 2 rfl)) (h.dep 6 rfl), trivial⟩
      intro g142 ts v142 hts E142
      simp only [fillL, Nat.reduceAdd, List.setIfInBounds_toArray, List.set_cons_zero, List.set_cons_succ] at hts
      subst hts
      have T143 : Below w.heap.size w v142 := T99.trans E142.below
      have l144 : q6 < v98.heap.size := b101.lt
      have l145 : q110 < v98.heap.size := b117.lt
      have b146 : Bx v142 q6 24 #[.bool na0, .slice A0 n0 c0] := (E142.far q6 b101.lt (by simp)).trans b101
      have b147 : Bx v142 q110 t116 #[.bool x118, .slice A119 m120 c121] := (E142.far q110 b117.lt (by simp)).trans b117
      have f148 := f102.mono E142.mono
      have f149 := f103.mono E142.mono
      have f151 := f123.mono E142.mono
      have e159 : g142 7 = (.bool false) := E142.facts 7 (by decide)
      refine then_normal ?_
      refine wp_cond_false e159 ?_
      refine wp_skip ?_
      refine then_normal ?_
      exact ⟨rfl, rfl, p92, p111, T143, b146, f148, b147, f151, f149, trivial⟩
  rintro y160 v160 ⟨p161, p162, T163, b164, f165, b166, f167, m168, hJ⟩
  have hlit : litv 157 y160 = #[y160 0, y160 1, y160 2, y160 3, y160 4, y160 5, y160 6, y160 7, y160 8, y160 9, y160 10, y160 11, y160 12, y160 13, y160 14, y160 15, y160 16, y160 17, y160 18, y160 19, y160 20, y160 21, y160 22, y160 23, y160 24, y160 25, y160 26, y160 27, y160 28, y160 29, y160 30, y160 31, y160 32, y160 33, y160 34, y160 35, y160 36, y160 37, y160 38, y160 39, y160 40, y160 41, y160 42, y160 43, y160 44, y160 45, y160 46, y160 47, y160 48, y160 49, y160 50, y160 51, y160 52, y160 53, y160 54, y160 55, y160 56, y160 57, y160 58, y160 59, y160 60, y160 61, y160 62, y160 63, y160 64, y160 65, y160 66, y160 67, y160 68, y160 69, y160 70, y160 71, y160 72, y160 73, y160 74, y160 75, y160 76, y160 77, y160 78, y160 79, y160 80, y160 81, y160 82, y160 83, y160 84, y160 85, y160 86, y160 87, y160 88, y160 89, y160 90, y160 91, y160 92, y160 93, y160 94, y160 95, y160 96, y160 97, y160 98, y160 99, y160 100, y160 101, y160 102, y160 103, y160 104, y160 105, y160 106, y160 107, y160 108, y160 109, y160 110, y160 111, y160 112, y160 113, y160 114, y160 115, y160 116, y160 117, y160 118, y160 119, y160 120, y160 121, y160 122, y160 123, y160 124, y160 125, y160 126, y160 127, y160 128, y160 129, y160 130, y160 131, y160 132, y160 133, y160 134, y160 135, y160 136, y160 137, y160 138, y160 139, y160 140, y160 141, y160 142, y160 143, y160 144, y160 145, y160 146, y160 147, y160 148, y160 149, y160 150, y160 151, y160 152, y160 153, y160 154, y160 155, y160 156] := rfl
  rw [hlit]
  clear hlit
  refine wp_seq ?_
  rcases hsg : (decide (z.sign < 0)) with _ | _
  · skip
    obtain ⟨r1, r2, r3, r4, lr⟩ := root_facts la0 hsg
    have HB : w.heap.size ≤ v160.heap.size := T163.size
    refine wp_plan_seq [.val (.az 1048576 z), .val (.tup2 (.cz (rootN z.natAbs : Int)) (.is (.int .i64 0))), .val (.tup2 (.cz (rootN z.natAbs : Int)) (.is (.int .i64 0))), .val (.cz (rootN z.natAbs : Int)), .val (.is (.int .i64 0)), .new 2 none, .put 11 62, .val (.is (.int .i64 0))] [] [] w.heap.size (by kernel_rfl) (by kernel_rfl) trivial HB ?_ ?_
    · exact ⟨fun s v h => does_val rfl rfl (x_load_z ((h.same 2 rfl).trans p161) ((h.far q6 b164.lt (by simp)).trans b164)) (f165.mono h.mono),
      fun s v h => does_call rfl rfl (x_call1 Try.call17) (zroot_a (h.dep 0 rfl) (by omega) hsg),
      fun s v h => does_val rfl rfl (x_move) (h.dep 1 rfl),
      fun s v h => by obtain ⟨r0, r1, e, f0, f1⟩ := tup2_at (h.dep 2 rfl); exact does_val rfl rfl (x_ext e rfl) f0,
      fun s v h => by obtain ⟨r0, r1, e, f0, f1⟩ := tup2_at (h.dep 2 rfl); exact does_val rfl rfl (x_ext e rfl) f1,
      fun s v h => does_new rfl rfl x_alloc_z (okz _ _ _ _) rfl (.inl rfl),
      fun s v h => by obtain ⟨q, e1, e2, e3⟩ := new_at (h.dep 5 rfl); exact does_put_z rfl rfl e1 (h.dep 3 rfl).shape e3 (Nat.le_trans HB e2),
      fun s v h => does_val rfl rfl (x_assign) (h.dep 4 rfl), trivial⟩
    intro g169 ts v169 hts E169
    simp only [fillL, Nat.reduceAdd, List.setIfInBounds_toArray, List.set_cons_zero, List.set_cons_succ] at hts
    subst hts
    have T170 : Below w.heap.size w v169 := T163.trans E169.below
    have l171 : q6 < v160.heap.size := b164.lt
    have l172 : q110 < v160.heap.size := b166.lt
    have b173 : Bx v169 q6 24 #[.bool na0, .slice A0 n0 c0] := (E169.far q6 b164.lt (by simp)).trans b164
    have b174 : Bx v169 q110 t116 #[.bool x118, .slice A119 m120 c121] := (E169.far q110 b166.lt (by simp)).trans b166
    have f175 := f165.mono E169.mono
    have f176 := m168.mono E169.mono
    have f177 := f167.mono E169.mono
    have f179 : Cz v169 (g169 3) (rootN z.natAbs : Int) := E169.facts 3 (by decide)
    have e181 : g169 7 = (.int .i64 0) := E169.facts 7 (by decide)
    obtain ⟨q182, p183, l184, o185⟩ : ∃ q, g169 5 = .pointer (some ⟨q, 0, none⟩) ∧ v160.heap.size ≤ q ∧ OkB v169 q 2 := E169.facts 5 (by decide)
    have h186 : w.heap.size ≤ q182 := Nat.le_trans HB l184
    obtain ⟨t189, x191, A192, m193, c194, e195, b190⟩ := put_info (E169.facts 6 (by decide)) p183 f179.shape
    have f196 : Cz v169 (.agg #[.bool x191, .slice A192 m193 c194]) (rootN z.natAbs : Int) := f179.at e195.symm
    refine then_normal ?_
    refine wp_seq ?_
    refine wp_seq ?_
    have HB : w.heap.size ≤ v169.heap.size := T170.size
    refine wp_plan_seq [.val (.is (.int .i64 0)), .val (.is (.bool true)), .val (.az 1048576 z), .val (.is (.int .i64 z.sign)), .val (.is (.bool true)), .val (.is (.bool false))] [] [] w.heap.size (by kernel_rfl) (by kernel_rfl) trivial HB ?_ ?_
    · exact ⟨fun s v h => does_val rfl rfl (x_move) ((h.same 10 rfl).trans e181),
      fun s v h => does_val rfl rfl (x_eql_err (h.dep 0 rfl) rfl) rfl,
      fun s v h => does_val rfl rfl (x_load_z ((h.same 2 rfl).trans p161) ((h.far q6 b173.lt (by simp)).trans b173)) (f175.mono h.mono),
      fun s v h => does_call rfl rfl (x_call1 Try.call39) (sign_k (h.dep 2 rfl)),
      fun s v h => does_val rfl rfl (x_geq (h.dep 3 rfl) rfl) (congrArg Value.bool r1),
      fun s v h => does_val rfl rfl (x_neq_bool (h.dep 1 rfl) (h.dep 4 rfl)) rfl, trivial⟩
    intro g197 ts v197 hts E197
    simp only [fillL, Nat.reduceAdd, List.setIfInBounds_toArray, List.set_cons_zero, List.set_cons_succ] at hts
    subst hts
    have T198 : Below w.heap.size w v197 := T170.trans E197.below
    have l199 : q6 < v169.heap.size := b173.lt
    have l200 : q110 < v169.heap.size := b174.lt
    have l201 : q182 < v169.heap.size := b190.lt
    have b202 : Bx v197 q6 24 #[.bool na0, .slice A0 n0 c0] := (E197.far q6 b173.lt (by simp)).trans b173
    have b203 : Bx v197 q110 t116 #[.bool x118, .slice A119 m120 c121] := (E197.far q110 b174.lt (by simp)).trans b174
    have b204 : Bx v197 q182 t189 #[.bool x191, .slice A192 m193 c194] := (E197.far q182 b190.lt (by simp)).trans b190
    have f205 := f175.mono E197.mono
    have f206 := f176.mono E197.mono
    have f207 := f177.mono E197.mono
    have f210 := f196.mono E197.mono
    have e216 : g197 5 = (.bool false) := E197.facts 5 (by decide)
    refine then_normal ?_
    refine wp_cond_false e216 ?_
    refine wp_skip ?_
    refine then_normal ?_
    refine wp_seq ?_
    have HB : w.heap.size ≤ v197.heap.size := T198.size
    refine wp_plan_any [.val (.cz (rootN z.natAbs : Int)), .val (.cz 1), .val (.cz ((rootN z.natAbs : Int) + 1)), .new 2 none, .put 12 72] [] [] w.heap.size (by kernel_rfl) (by kernel_rfl) (by kernel_rfl) trivial HB ?_ ?_
    · exact ⟨fun s v h => does_val rfl rfl (x_load_z ((h.same 11 rfl).trans p183) ((h.far q182 b204.lt (by simp)).trans b204)) (f210.mono ((Mono.drew _).trans h.mono)),
      fun s v h => does_call rfl rfl (x_call1 Try.call42) (of_k rfl (by decide) (by decide)),
      fun s v h => does_call rfl rfl (x_call2 Try.call14) (add_k ((h.dep 0 rfl).az (N := 1048576) lr) ((h.dep 1 rfl).az (N := 1) (show (digs (Int.natAbs 1)).length ≤ 1 from digs_len_le (by decide))) (by omega) (by omega)),
      fun s v h => does_new rfl rfl x_alloc_z (okz _ _ _ _) rfl (.inl rfl),
      fun s v h => by obtain ⟨q, e1, e2, e3⟩ := new_at (h.dep 3 rfl); exact does_put_z rfl rfl e1 (h.dep 2 rfl).shape e3 (Nat.le_trans HB e2), trivial⟩
    intro g217 ts v217 hts E217
    simp only [fillL, Nat.reduceAdd, List.setIfInBounds_toArray, List.set_cons_zero, List.set_cons_succ] at hts
    subst hts
    have T218 : Below w.heap.size w v217 := (below_toDrew T198).trans E217.below
    have l219 : q6 < v197.heap.size := b202.lt
    have l220 : q110 < v197.heap.size := b203.lt
    have l221 : q182 < v197.heap.size := b204.lt
    have b222 : Bx v217 q6 24 #[.bool na0, .slice A0 n0 c0] := (E217.far q6 b202.lt (by simp)).trans b202
    have b223 : Bx v217 q110 t116 #[.bool x118, .slice A119 m120 c121] := (E217.far q110 b203.lt (by simp)).trans b203
    have b224 : Bx v217 q182 t189 #[.bool x191, .slice A192 m193 c194] := (E217.far q182 b204.lt (by simp)).trans b204
    have f225 := f205.mono ((Mono.drew _).trans E217.mono)
    have f226 := f206.mono ((Mono.drew _).trans E217.mono)
    have f227 := f207.mono ((Mono.drew _).trans E217.mono)
    have f230 := f210.mono ((Mono.drew _).trans E217.mono)
    have f234 : Cz v217 (g217 2) ((rootN z.natAbs : Int) + 1) := E217.facts 2 (by decide)
    obtain ⟨q235, p236, l237, o238⟩ : ∃ q, g217 3 = .pointer (some ⟨q, 0, none⟩) ∧ v197.heap.size ≤ q ∧ OkB v217 q 2 := E217.facts 3 (by decide)
    have h239 : w.heap.size ≤ q235 := Nat.le_trans HB l237
    obtain ⟨t243, x245, A246, m247, c248, e249, b244⟩ := put_info (E217.facts 4 (by decide)) p236 f234.shape
    have f250 : Cz v217 (.agg #[.bool x245, .slice A246 m247 c248]) ((rootN z.natAbs : Int) + 1) := f234.at e249.symm
    refine then_normal ?_
    refine wp_seq ?_
    refine wp_seq ?_
    have HB : w.heap.size ≤ v217.heap.size := T218.size
    refine wp_plan_any [.val (.is (.int .i64 0)), .val (.is (.bool true)), .val (.is (.bool true)), .val (.cz (rootN z.natAbs : Int)), .val (.is (.int .i64 (rootN z.natAbs : Int).sign)), .val (.is (.bool false)), .val (.is (.bool false)), .val (.cz (rootN z.natAbs : Int)), .val (.cz (rootN z.natAbs : Int)), .val (.cz ((rootN z.natAbs : Int) * (rootN z.natAbs : Int))), .val (.az 1048576 z), .val (.is (.int .i64 (((rootN z.natAbs : Int) * (rootN z.natAbs : Int)) - z).sign)), .val (.is (.bool false)), .val (.is (.bool false)), .val (.is (.bool false)), .val (.cz ((rootN z.natAbs : Int) + 1)), .val (.cz ((rootN z.natAbs : Int) + 1)), .val (.cz (((rootN z.natAbs : Int) + 1) * ((rootN z.natAbs : Int) + 1))), .val (.az 1048576 z), .val (.is (.int .i64 ((((rootN z.natAbs : Int) + 1) * ((rootN z.natAbs : Int) + 1)) - z).sign)), .val (.is (.bool false)), .val (.is (.bool false)), .val (.is (.bool false))] [] [] w.heap.size (by kernel_rfl) (by kernel_rfl) (by kernel_rfl) trivial HB ?_ ?_
    · exact ⟨fun s v h => does_val rfl rfl (x_move) ((h.same 10 rfl).trans e181),
      fun s v h => does_val rfl rfl (x_eql_err (h.dep 0 rfl) rfl) rfl,
      fun s v h => does_val rfl rfl (x_move) (h.dep 1 rfl),
      fun s v h => does_val rfl (wanted_by (b := true) (want := true) rfl rfl (h.dep 2 rfl)) (x_load_z ((h.same 11 rfl).trans p183) ((h.far q182 b224.lt (by simp)).trans b224)) (f230.mono ((Mono.drew _).trans h.mono)),
      fun s v h => does_call rfl (wanted_by (b := true) (want := true) rfl rfl (h.dep 2 rfl)) (x_call1 Try.call39) (sign_k ((h.dep 3 rfl).az (N := 1048576) lr)),
      fun s v h => does_val rfl (wanted_by (b := true) (want := true) rfl rfl (h.dep 2 rfl)) (x_lss (h.dep 4 rfl) rfl) (congrArg Value.bool r2),
      fun s v h => does_val rfl (wanted_by (b := true) (want := true) rfl rfl (h.dep 2 rfl)) (x_move) (h.dep 5 rfl),
      fun s v h => does_val rfl (wanted_by (b := false) (want := false) rfl rfl (h.dep 6 rfl)) (x_load_z ((h.same 11 rfl).trans p183) ((h.far q182 b224.lt (by simp)).trans b224)) (f230.mono ((Mono.drew _).trans h.mono)),
      fun s v h => does_val rfl (wanted_by (b := false) (want := false) rfl rfl (h.dep 6 rfl)) (x_load_z ((h.same 11 rfl).trans p183) ((h.far q182 b224.lt (by simp)).trans b224)) (f230.mono ((Mono.drew _).trans h.mono)),
      fun s v h => does_call rfl (wanted_by (b := false) (want := false) rfl rfl (h.dep 6 rfl)) (x_call2 Try.call16) (mul_k ((h.dep 7 rfl).az (N := 1048576) lr) ((h.dep 8 rfl).az (N := 1048576) lr) (by omega) (by omega)),
      fun s v h => does_val rfl (wanted_by (b := false) (want := false) rfl rfl (h.dep 6 rfl)) (x_load_z ((h.same 2 rfl).trans p161) ((h.far q6 b222.lt (by simp)).trans b222)) (f225.mono ((Mono.drew _).trans h.mono)),
      fun s v h => does_call rfl (wanted_by (b := false) (want := false) rfl rfl (h.dep 6 rfl)) (x_call2 Try.call40) (zcmp_k ((h.dep 9 rfl).az (N := 2097152) (len_mul lr lr)) (h.dep 10 rfl)),
      fun s v h => does_val rfl (wanted_by (b := false) (want := false) rfl rfl (h.dep 6 rfl)) (x_gtr (h.dep 11 rfl) rfl) (congrArg Value.bool r3),
      fun s v h => does_val rfl (wanted_by (b := true) (want := true) rfl rfl (h.dep 2 rfl)) (x_pick (h.dep 6 rfl)) (h.dep 12 rfl),
      fun s v h => does_val rfl (wanted_by (b := true) (want := true) rfl rfl (h.dep 2 rfl)) (x_move) (h.dep 13 rfl),
      fun s v h => does_val rfl (wanted_by (b := false) (want := false) rfl rfl (h.dep 14 rfl)) (x_load_z ((h.same 12 rfl).trans p236) ((h.far q235 b244.lt (by simp)).trans b244)) (f250.mono ((Mono.drew _).trans h.mono)),
      fun s v h => does_val rfl (wanted_by (b := false) (want := false) rfl rfl (h.dep 14 rfl)) (x_load_z ((h.same 12 rfl).trans p236) ((h.far q235 b244.lt (by simp)).trans b244)) (f250.mono ((Mono.drew _).trans h.mono)),
      fun s v h => does_call rfl (wanted_by (b := false) (want := false) rfl rfl (h.dep 14 rfl)) (x_call2 Try.call16) (mul_k ((h.dep 15 rfl).az (N := 1048577) (len_add' (n := 1048577) lr (show (digs (Int.natAbs 1)).length ≤ 1 from digs_len_le (by decide)) (by omega) (by omega))) ((h.dep 16 rfl).az (N := 1048577) (len_add' (n := 1048577) lr (show (digs (Int.natAbs 1)).length ≤ 1 from digs_len_le (by decide)) (by omega) (by omega))) (by omega) (by omega)),
      fun s v h => does_val rfl (wanted_by (b := false) (want := false) rfl rfl (h.dep 14 rfl)) (x_load_z ((h.same 2 rfl).trans p161) ((h.far q6 b222.lt (by simp)).trans b222)) (f225.mono ((Mono.drew _).trans h.mono)),
      fun s v h => does_call rfl (wanted_by (b := false) (want := false) rfl rfl (h.dep 14 rfl)) (x_call2 Try.call40) (zcmp_k ((h.dep 17 rfl).az (N := 2097154) (len_mul (len_add' (n := 1048577) lr (show (digs (Int.natAbs 1)).length ≤ 1 from digs_len_le (by decide)) (by omega) (by omega)) (len_add' (n := 1048577) lr (show (digs (Int.natAbs 1)).length ≤ 1 from digs_len_le (by decide)) (by omega) (by omega)))) (h.dep 18 rfl)),
      fun s v h => does_val rfl (wanted_by (b := false) (want := false) rfl rfl (h.dep 14 rfl)) (x_leq (h.dep 19 rfl) rfl) (congrArg Value.bool r4),
      fun s v h => does_val rfl (wanted_by (b := true) (want := true) rfl rfl (h.dep 2 rfl)) (x_pick (h.dep 14 rfl)) (h.dep 20 rfl),
      fun s v h => does_val rfl rfl (x_pick (h.dep 2 rfl)) (h.dep 21 rfl), trivial⟩
    intro g251 ts v251 hts E251
    simp only [fillL, Nat.reduceAdd, List.setIfInBounds_toArray, List.set_cons_zero, List.set_cons_succ] at hts
    subst hts
    have T252 : Below w.heap.size w v251 := (below_toDrew T218).trans E251.below
    have l253 : q6 < v217.heap.size := b222.lt
    have l254 : q110 < v217.heap.size := b223.lt
    have l255 : q182 < v217.heap.size := b224.lt
    have l256 : q235 < v217.heap.size := b244.lt
    have b257 : Bx v251 q6 24 #[.bool na0, .slice A0 n0 c0] := (E251.far q6 b222.lt (by simp)).trans b222
    have b258 : Bx v251 q110 t116 #[.bool x118, .slice A119 m120 c121] := (E251.far q110 b223.lt (by simp)).trans b223
    have b259 : Bx v251 q182 t189 #[.bool x191, .slice A192 m193 c194] := (E251.far q182 b224.lt (by simp)).trans b224
    have b260 : Bx v251 q235 t243 #[.bool x245, .slice A246 m247 c248] := (E251.far q235 b244.lt (by simp)).trans b244
    have f261 := f225.mono ((Mono.drew _).trans E251.mono)
    have f262 := f226.mono ((Mono.drew _).trans E251.mono)
    have f263 := f227.mono ((Mono.drew _).trans E251.mono)
    have f266 := f230.mono ((Mono.drew _).trans E251.mono)
    have f271 := f250.mono ((Mono.drew _).trans E251.mono)
    have e294 : g251 22 = (.bool false) := E251.facts 22 (by decide)
    refine then_normal ?_
    refine wp_cond_false e294 ?_
    refine wp_skip ?_
    refine then_normal ?_
    refine wp_seq ?_
    have HB : w.heap.size ≤ v251.heap.size := T252.size
    refine wp_plan_seq [.val (.az 1048576 z), .val (.tup3 (.is (.int .u64 (m : Int))) (.is (.int .i64 (e : Int))) (.is (.bool b))), .val (.tup3 (.is (.int .u64 (m : Int))) (.is (.int .i64 (e : Int))) (.is (.bool b))), .val (.is (.int .u64 (m : Int))), .val (.is (.int .i64 (e : Int))), .val (.is (.bool b)), .val (.is (.int .u64 (m : Int))), .val (.is (.int .i64 (e : Int))), .val (.is (.bool b))] [] [] w.heap.size (by kernel_rfl) (by kernel_rfl) trivial HB ?_ ?_
    · exact ⟨fun s v h => does_val rfl rfl (x_load_z ((h.same 2 rfl).trans p161) ((h.far q6 b257.lt (by simp)).trans b257)) (f261.mono h.mono),
      fun s v h => does_call rfl rfl (x_call1 Try.call22) (hm ▸ ztop_k (h.dep 0 rfl) (by omega) he (Lib.hid (hm.symm ▸ hm1)) b hb),
      fun s v h => does_val rfl rfl (x_move) (h.dep 1 rfl),
      fun s v h => by obtain ⟨r0, r1, r2, e, f0, f1, f2⟩ := tup3_at (h.dep 2 rfl); exact does_val rfl rfl (x_ext e rfl) f0,
      fun s v h => by obtain ⟨r0, r1, r2, e, f0, f1, f2⟩ := tup3_at (h.dep 2 rfl); exact does_val rfl rfl (x_ext e rfl) f1,
      fun s v h => by obtain ⟨r0, r1, r2, e, f0, f1, f2⟩ := tup3_at (h.dep 2 rfl); exact does_val rfl rfl (x_ext e rfl) f2,
      fun s v h => does_val rfl rfl (x_assign) (h.dep 3 rfl),
      fun s v h => does_val rfl rfl (x_assign) (h.dep 4 rfl),
      fun s v h => does_val rfl rfl (x_assign) (h.dep 5 rfl), trivial⟩
    intro g295 ts v295 hts E295
    simp only [fillL, Nat.reduceAdd, List.setIfInBounds_toArray, List.set_cons_zero, List.set_cons_succ] at hts
    subst hts
    have T296 : Below w.heap.size w v295 := T252.trans E295.below
    have l297 : q6 < v251.heap.size := b257.lt
    have l298 : q110 < v251.heap.size := b258.lt
    have l299 : q182 < v251.heap.size := b259.lt
    have l300 : q235 < v251.heap.size := b260.lt
    have b301 : Bx v295 q6 24 #[.bool na0, .slice A0 n0 c0] := (E295.far q6 b257.lt (by simp)).trans b257
    have b302 : Bx v295 q110 t116 #[.bool x118, .slice A119 m120 c121] := (E295.far q110 b258.lt (by simp)).trans b258
    have b303 : Bx v295 q182 t189 #[.bool x191, .slice A192 m193 c194] := (E295.far q182 b259.lt (by simp)).trans b259
    have b304 : Bx v295 q235 t243 #[.bool x245, .slice A246 m247 c248] := (E295.far q235 b260.lt (by simp)).trans b260
    have f305 := f261.mono E295.mono
    have f306 := f262.mono E295.mono
    have f307 := f263.mono E295.mono
    have f310 := f266.mono E295.mono
    have f315 := f271.mono E295.mono
    have e329 : g295 6 = (.int .u64 (m : Int)) := E295.facts 6 (by decide)
    have e330 : g295 7 = (.int .i64 (e : Int)) := E295.facts 7 (by decide)
    have e331 : g295 8 = (.bool b) := E295.facts 8 (by decide)
    refine then_normal ?_
    refine wp_seq ?_
    refine wp_cut_v 157 (fun y wL => y 2 = .pointer (some ⟨q6, 0, none⟩) ∧ y 8 = .pointer (some ⟨q110, 0, none⟩) ∧ y 11 = .pointer (some ⟨q182, 0, none⟩) ∧ y 12 = .pointer (some ⟨q235, 0, none⟩) ∧ y 13 = (.int .u64 (m : Int)) ∧ y 14 = (.int .i64 (e : Int)) ∧ y 15 = (.bool b) ∧ Below w.heap.size w wL ∧ Bx wL q6 24 #[.bool na0, .slice A0 n0 c0] ∧ Az 1048576 wL (.agg #[.bool na0, .slice A0 n0 c0]) z ∧ Bx wL q110 t116 #[.bool x118, .slice A119 m120 c121] ∧ Cz wL (.agg #[.bool x118, .slice A119 m120 c121]) zs ∧ Bx wL q182 t189 #[.bool x191, .slice A192 m193 c194] ∧ Cz wL (.agg #[.bool x191, .slice A192 m193 c194]) (rootN z.natAbs : Int) ∧ Bx wL q235 t243 #[.bool x245, .slice A246 m247 c248] ∧ Cz wL (.agg #[.bool x245, .slice A246 m247 c248]) ((rootN z.natAbs : Int) + 1) ∧ Nz 1048576 wL (.slice A0 n0 c0) M0 ∧ (True)) ?_ ?_
    · skip
      refine wp_seq ?_
      rcases t1 : (decide (0 < (e : Int))) with _ | _
      · skip
        have HB : w.heap.size ≤ v295.heap.size := T296.size
        refine wp_plan_seq [.val (.is (.int .u64 (m : Int))), .val (.is (.bool false)), .val (.is (.bool false)), .val (.is (.int .i64 (e : Int))), .val (.is (.bool false)), .val (.is (.bool false)), .val (.is (.bool false)), .val (.is (.int .i64 (e : Int))), .val (.is (.bool false)), .val (.is (.bool false)), .val (.is undef), .val (.is undef), .val (.is (.bool false)), .val (.is (.bool false))] [] [] w.heap.size (by kernel_rfl) (by kernel_rfl) trivial HB ?_ ?_
        · exact ⟨fun s v h => does_val rfl rfl (x_move) ((h.same 13 rfl).trans e329),
      fun s v h => does_val rfl rfl (x_geq (h.dep 0 rfl) rfl) (congrArg Value.bool gA),
      fun s v h => does_val rfl rfl (x_move) (h.dep 1 rfl),
      fun s v h => does_val rfl (wanted_by (b := false) (want := false) rfl rfl (h.dep 2 rfl)) (x_move) ((h.same 14 rfl).trans e330),
      fun s v h => does_val rfl (wanted_by (b := false) (want := false) rfl rfl (h.dep 2 rfl)) (x_lss (h.dep 3 rfl) rfl) (congrArg Value.bool gB),
      fun s v h => does_val rfl rfl (x_pick (h.dep 2 rfl)) (h.dep 4 rfl),
      fun s v h => does_val rfl rfl (x_move) (h.dep 5 rfl),
      fun s v h => does_val rfl (wanted_by (b := false) (want := false) rfl rfl (h.dep 6 rfl)) (x_move) ((h.same 14 rfl).trans e330),
      fun s v h => does_val rfl (wanted_by (b := false) (want := false) rfl rfl (h.dep 6 rfl)) (x_gtr (h.dep 7 rfl) rfl) (congrArg Value.bool t1),
      fun s v h => does_val rfl (wanted_by (b := false) (want := false) rfl rfl (h.dep 6 rfl)) (x_move) (h.dep 8 rfl),
      fun s v h => does_skip rfl (wanted_by (b := false) (want := true) rfl rfl (h.dep 9 rfl)) rfl,
      fun s v h => does_skip rfl (wanted_by (b := false) (want := true) rfl rfl (h.dep 9 rfl)) rfl,
      fun s v h => does_val rfl (wanted_by (b := false) (want := false) rfl rfl (h.dep 6 rfl)) (x_pick (h.dep 9 rfl)) rfl,
      fun s v h => does_val rfl rfl (x_pick (h.dep 6 rfl)) (h.dep 12 rfl), trivial⟩
        intro g332 ts v332 hts E332
        simp only [fillL, Nat.reduceAdd, List.setIfInBounds_toArray, List.set_cons_zero, List.set_cons_succ] at hts
        subst hts
        have T333 : Below w.heap.size w v332 := T296.trans E332.below
        have l334 : q6 < v295.heap.size := b301.lt
        have l335 : q110 < v295.heap.size := b302.lt
        have l336 : q182 < v295.heap.size := b303.lt
        have l337 : q235 < v295.heap.size := b304.lt
        have b338 : Bx v332 q6 24 #[.bool na0, .slice A0 n0 c0] := (E332.far q6 b301.lt (by simp)).trans b301
        have b339 : Bx v332 q110 t116 #[.bool x118, .slice A119 m120 c121] := (E332.far q110 b302.lt (by simp)).trans b302
        have b340 : Bx v332 q182 t189 #[.bool x191, .slice A192 m193 c194] := (E332.far q182 b303.lt (by simp)).trans b303
        have b341 : Bx v332 q235 t243 #[.bool x245, .slice A246 m247 c248] := (E332.far q235 b304.lt (by simp)).trans b304
        have f342 := f305.mono E332.mono
        have f343 := f306.mono E332.mono
        have f344 := f307.mono E332.mono
        have f347 := f310.mono E332.mono
        have f352 := f315.mono E332.mono
        have e376 : g332 13 = (.bool false) := E332.facts 13 (by decide)
        refine then_normal ?_
        refine wp_cond_false e376 ?_
        refine wp_skip ?_
        refine then_normal ?_
        exact ⟨rfl, rfl, p161, p162, p183, p236, e329, e330, e331, T333, b338, f342, b339, f344, b340, f347, b341, f352, f343, trivial⟩
      · skip
        have t2 : decide ((m : Int) < 4503599627370496) = false := decide_eq_false (by have := hm2 (by have := of_decide_eq_true t1; omega); omega)
        have HB : w.heap.size ≤ v295.heap.size := T296.size
        refine wp_plan_seq [.val (.is (.int .u64 (m : Int))), .val (.is (.bool false)), .val (.is (.bool false)), .val (.is (.int .i64 (e : Int))), .val (.is (.bool false)), .val (.is (.bool false)), .val (.is (.bool false)), .val (.is (.int .i64 (e : Int))), .val (.is (.bool true)), .val (.is (.bool true)), .val (.is (.int .u64 (m : Int))), .val (.is (.bool false)), .val (.is (.bool false)), .val (.is (.bool false))] [] [] w.heap.size (by kernel_rfl) (by kernel_rfl) trivial HB ?_ ?_
        · exact ⟨fun s v h => does_val rfl rfl (x_move) ((h.same 13 rfl).trans e329),
      fun s v h => does_val rfl rfl (x_geq (h.dep 0 rfl) rfl) (congrArg Value.bool gA),
      fun s v h => does_val rfl rfl (x_move) (h.dep 1 rfl),
      fun s v h => does_val rfl (wanted_by (b := false) (want := false) rfl rfl (h.dep 2 rfl)) (x_move) ((h.same 14 rfl).trans e330),
      fun s v h => does_val rfl (wanted_by (b := false) (want := false) rfl rfl (h.dep 2 rfl)) (x_lss (h.dep 3 rfl) rfl) (congrArg Value.bool gB),
      fun s v h => does_val rfl rfl (x_pick (h.dep 2 rfl)) (h.dep 4 rfl),
      fun s v h => does_val rfl rfl (x_move) (h.dep 5 rfl),
      fun s v h => does_val rfl (wanted_by (b := false) (want := false) rfl rfl (h.dep 6 rfl)) (x_move) ((h.same 14 rfl).trans e330),
      fun s v h => does_val rfl (wanted_by (b := false) (want := false) rfl rfl (h.dep 6 rfl)) (x_gtr (h.dep 7 rfl) rfl) (congrArg Value.bool t1),
      fun s v h => does_val rfl (wanted_by (b := false) (want := false) rfl rfl (h.dep 6 rfl)) (x_move) (h.dep 8 rfl),
      fun s v h => does_val rfl (wanted_by (b := true) (want := true) rfl rfl (h.dep 9 rfl)) (x_move) ((h.same 13 rfl).trans e329),
      fun s v h => does_val rfl (wanted_by (b := true) (want := true) rfl rfl (h.dep 9 rfl)) (x_lss (h.dep 10 rfl) rfl) (congrArg Value.bool t2),
      fun s v h => does_val rfl (wanted_by (b := false) (want := false) rfl rfl (h.dep 6 rfl)) (x_pick (h.dep 9 rfl)) (h.dep 11 rfl),
      fun s v h => does_val rfl rfl (x_pick (h.dep 6 rfl)) (h.dep 12 rfl), trivial⟩
        intro g377 ts v377 hts E377
        simp only [fillL, Nat.reduceAdd, List.setIfInBounds_toArray, List.set_cons_zero, List.set_cons_succ] at hts
        subst hts
        have T378 : Below w.heap.size w v377 := T296.trans E377.below
        have l379 : q6 < v295.heap.size := b301.lt
        have l380 : q110 < v295.heap.size := b302.lt
        have l381 : q182 < v295.heap.size := b303.lt
        have l382 : q235 < v295.heap.size := b304.lt
        have b383 : Bx v377 q6 24 #[.bool na0, .slice A0 n0 c0] := (E377.far q6 b301.lt (by simp)).trans b301
        have b384 : Bx v377 q110 t116 #[.bool x118, .slice A119 m120 c121] := (E377.far q110 b302.lt (by simp)).trans b302
        have b385 : Bx v377 q182 t189 #[.bool x191, .slice A192 m193 c194] := (E377.far q182 b303.lt (by simp)).trans b303
        have b386 : Bx v377 q235 t243 #[.bool x245, .slice A246 m247 c248] := (E377.far q235 b304.lt (by simp)).trans b304
        have f387 := f305.mono E377.mono
        have f388 := f306.mono E377.mono
        have f389 := f307.mono E377.mono
        have f392 := f310.mono E377.mono
        have f397 := f315.mono E377.mono
        have e421 : g377 13 = (.bool false) := E377.facts 13 (by decide)
        refine then_normal ?_
        refine wp_cond_false e421 ?_
        refine wp_skip ?_
        refine then_normal ?_
        exact ⟨rfl, rfl, p161, p162, p183, p236, e329, e330, e331, T378, b383, f387, b384, f389, b385, f392, b386, f397, f388, trivial⟩
    rintro y422 v422 ⟨p423, p424, p425, p426, p427, p428, p429, T430, b431, f432, b433, f434, b435, f436, b437, f438, m439, hJ⟩
    have hlit : litv 157 y422 = #[y422 0, y422 1, y422 2, y422 3, y422 4, y422 5, y422 6, y422 7, y422 8, y422 9, y422 10, y422 11, y422 12, y422 13, y422 14, y422 15, y422 16, y422 17, y422 18, y422 19, y422 20, y422 21, y422 22, y422 23, y422 24, y422 25, y422 26, y422 27, y422 28, y422 29, y422 30, y422 31, y422 32, y422 33, y422 34, y422 35, y422 36, y422 37, y422 38, y422 39, y422 40, y422 41, y422 42, y422 43, y422 44, y422 45, y422 46, y422 47, y422 48, y422 49, y422 50, y422 51, y422 52, y422 53, y422 54, y422 55, y422 56, y422 57, y422 58, y422 59, y422 60, y422 61, y422 62, y422 63, y422 64, y422 65, y422 66, y422 67, y422 68, y422 69, y422 70, y422 71, y422 72, y422 73, y422 74, y422 75, y422 76, y422 77, y422 78, y422 79, y422 80, y422 81, y422 82, y422 83, y422 84, y422 85, y422 86, y422 87, y422 88, y422 89, y422 90, y422 91, y422 92, y422 93, y422 94, y422 95, y422 96, y422 97, y422 98, y422 99, y422 100, y422 101, y422 102, y422 103, y422 104, y422 105, y422 106, y422 107, y422 108, y422 109, y422 110, y422 111, y422 112, y422 113, y422 114, y422 115, y422 116, y422 117, y422 118, y422 119, y422 120, y422 121, y422 122, y422 123, y422 124, y422 125, y422 126, y422 127, y422 128, y422 129, y422 130, y422 131, y422 132, y422 133, y422 134, y422 135, y422 136, y422 137, y422 138, y422 139, y422 140, y422 141, y422 142, y422 143, y422 144, y422 145, y422 146, y422 147, y422 148, y422 149, y422 150, y422 151, y422 152, y422 153, y422 154, y422 155, y422 156] := rfl
    rw [hlit]
    clear hlit
    refine wp_seq ?_
    rcases s1 : (decide ((65536 : Int) < (e : Int))) with _ | _
    · skip
      have hel : e ≤ 65536 := by have := of_decide_eq_false s1; omega
      have s2 : decide ((e : Int) < -65536) = false := decide_eq_false (by omega)
      have s3 : decide (0 ≤ (e : Int)) = true := decide_eq_true (by omega)
      have lup := up_len lm hel
      have lnx := up_len lm1 hel
      have HB : w.heap.size ≤ v422.heap.size := T430.size
      refine wp_plan_seq [.val (.is (.int .u64 (m : Int))), .val (.is (.int .i64 (m : Int))), .val (.cz (m : Int)), .val (.is (.int .i64 (e : Int))), .val (.tup2 (.cz ((m : Int) * ((2 ^ e : Nat) : Int))) (.is (.int .i64 0))), .val (.tup2 (.cz ((m : Int) * ((2 ^ e : Nat) : Int))) (.is (.int .i64 0))), .val (.cz ((m : Int) * ((2 ^ e : Nat) : Int))), .val (.is (.int .i64 0)), .new 2 none, .put 16 122, .val (.is (.int .i64 0))] [] [] w.heap.size (by kernel_rfl) (by kernel_rfl) trivial HB ?_ ?_
      · exact ⟨fun s v h => does_val rfl rfl (x_move) ((h.same 13 rfl).trans p427),
      fun s v h => does_val rfl rfl (x_conv_u_i (h.dep 0 rfl) (IntWalk.i64_in _ (by omega))) rfl,
      fun s v h => does_call rfl rfl (x_call1 Try.call42) (of_k (h.dep 1 rfl) (by omega) (by omega)),
      fun s v h => does_val rfl rfl (x_move) ((h.same 14 rfl).trans p428),
      fun s v h => does_call rfl rfl (x_call2 Try.call37) (two_arg (h.dep 3 rfl) (zshift_c ((h.dep 2 rfl).az (N := 2) lm) (by omega) hel s1 s2 s3)),
      fun s v h => does_val rfl rfl (x_move) (h.dep 4 rfl),
      fun s v h => by obtain ⟨r0, r1, e, f0, f1⟩ := tup2_at (h.dep 5 rfl); exact does_val rfl rfl (x_ext e rfl) f0,
      fun s v h => by obtain ⟨r0, r1, e, f0, f1⟩ := tup2_at (h.dep 5 rfl); exact does_val rfl rfl (x_ext e rfl) f1,
      fun s v h => does_new rfl rfl x_alloc_z (okz _ _ _ _) rfl (.inl rfl),
      fun s v h => by obtain ⟨q, e1, e2, e3⟩ := new_at (h.dep 8 rfl); exact does_put_z rfl rfl e1 (h.dep 6 rfl).shape e3 (Nat.le_trans HB e2),
      fun s v h => does_val rfl rfl (x_assign) (h.dep 7 rfl), trivial⟩
      intro g440 ts v440 hts E440
      simp only [fillL, Nat.reduceAdd, List.setIfInBounds_toArray, List.set_cons_zero, List.set_cons_succ] at hts
      subst hts
      have T441 : Below w.heap.size w v440 := T430.trans E440.below
      have l442 : q6 < v422.heap.size := b431.lt
      have l443 : q110 < v422.heap.size := b433.lt
      have l444 : q182 < v422.heap.size := b435.lt
      have l445 : q235 < v422.heap.size := b437.lt
      have b446 : Bx v440 q6 24 #[.bool na0, .slice A0 n0 c0] := (E440.far q6 b431.lt (by simp)).trans b431
      have b447 : Bx v440 q110 t116 #[.bool x118, .slice A119 m120 c121] := (E440.far q110 b433.lt (by simp)).trans b433
      have b448 : Bx v440 q182 t189 #[.bool x191, .slice A192 m193 c194] := (E440.far q182 b435.lt (by simp)).trans b435
      have b449 : Bx v440 q235 t243 #[.bool x245, .slice A246 m247 c248] := (E440.far q235 b437.lt (by simp)).trans b437
      have f450 := f432.mono E440.mono
      have f459 : Cz v440 (g440 6) ((m : Int) * ((2 ^ e : Nat) : Int)) := E440.facts 6 (by decide)
      have e461 : g440 10 = (.int .i64 0) := E440.facts 10 (by decide)
      obtain ⟨q462, p463, l464, o465⟩ : ∃ q, g440 8 = .pointer (some ⟨q, 0, none⟩) ∧ v422.heap.size ≤ q ∧ OkB v440 q 2 := E440.facts 8 (by decide)
      have h466 : w.heap.size ≤ q462 := Nat.le_trans HB l464
      obtain ⟨t471, x473, A474, m475, c476, e477, b472⟩ := put_info (E440.facts 9 (by decide)) p463 f459.shape
      have f478 : Cz v440 (.agg #[.bool x473, .slice A474 m475 c476]) ((m : Int) * ((2 ^ e : Nat) : Int)) := f459.at e477.symm
      refine then_normal ?_
      refine wp_seq ?_
      have HB : w.heap.size ≤ v440.heap.size := T441.size
      refine wp_plan_seq [.val (.is (.int .u64 (m : Int))), .val (.is (.int .i64 (m : Int))), .val (.is (.int .i64 ((m : Int) + 1))), .val (.cz ((m : Int) + 1)), .val (.is (.int .i64 (e : Int))), .val (.tup2 (.cz (((m : Int) + 1) * ((2 ^ e : Nat) : Int))) (.is (.int .i64 0))), .val (.tup2 (.cz (((m : Int) + 1) * ((2 ^ e : Nat) : Int))) (.is (.int .i64 0))), .val (.cz (((m : Int) + 1) * ((2 ^ e : Nat) : Int))), .val (.is (.int .i64 0)), .new 2 none, .put 18 131, .val (.is (.int .i64 0))] [] [] w.heap.size (by kernel_rfl) (by kernel_rfl) trivial HB ?_ ?_
      · exact ⟨fun s v h => does_val rfl rfl (x_move) ((h.same 13 rfl).trans p427),
      fun s v h => does_val rfl rfl (x_conv_u_i (h.dep 0 rfl) (IntWalk.i64_in _ (by omega))) rfl,
      fun s v h => does_val rfl rfl (x_add_i64 (h.dep 1 rfl) rfl (by rw [IntKind.wrap_i64]; omega)) rfl,
      fun s v h => does_call rfl rfl (x_call1 Try.call42) (of_k (h.dep 2 rfl) (by omega) (by omega)),
      fun s v h => does_val rfl rfl (x_move) ((h.same 14 rfl).trans p428),
      fun s v h => does_call rfl rfl (x_call2 Try.call37) (two_arg (h.dep 4 rfl) (zshift_c ((h.dep 3 rfl).az (N := 2) lm1) (by omega) hel s1 s2 s3)),
      fun s v h => does_val rfl rfl (x_move) (h.dep 5 rfl),
      fun s v h => by obtain ⟨r0, r1, e, f0, f1⟩ := tup2_at (h.dep 6 rfl); exact does_val rfl rfl (x_ext e rfl) f0,
      fun s v h => by obtain ⟨r0, r1, e, f0, f1⟩ := tup2_at (h.dep 6 rfl); exact does_val rfl rfl (x_ext e rfl) f1,
      fun s v h => does_new rfl rfl x_alloc_z (okz _ _ _ _) rfl (.inl rfl),
      fun s v h => by obtain ⟨q, e1, e2, e3⟩ := new_at (h.dep 9 rfl); exact does_put_z rfl rfl e1 (h.dep 7 rfl).shape e3 (Nat.le_trans HB e2),
      fun s v h => does_val rfl rfl (x_assign) (h.dep 8 rfl), trivial⟩
      intro g479 ts v479 hts E479
      simp only [fillL, Nat.reduceAdd, List.setIfInBounds_toArray, List.set_cons_zero, List.set_cons_succ] at hts
      subst hts
      have T480 : Below w.heap.size w v479 := T441.trans E479.below
      have l481 : q6 < v440.heap.size := b446.lt
      have l482 : q110 < v440.heap.size := b447.lt
      have l483 : q182 < v440.heap.size := b448.lt
      have l484 : q235 < v440.heap.size := b449.lt
      have l485 : q462 < v440.heap.size := b472.lt
      have b486 : Bx v479 q6 24 #[.bool na0, .slice A0 n0 c0] := (E479.far q6 b446.lt (by simp)).trans b446
      have b487 : Bx v479 q110 t116 #[.bool x118, .slice A119 m120 c121] := (E479.far q110 b447.lt (by simp)).trans b447
      have b488 : Bx v479 q182 t189 #[.bool x191, .slice A192 m193 c194] := (E479.far q182 b448.lt (by simp)).trans b448
      have b489 : Bx v479 q235 t243 #[.bool x245, .slice A246 m247 c248] := (E479.far q235 b449.lt (by simp)).trans b449
      have b490 : Bx v479 q462 t471 #[.bool x473, .slice A474 m475 c476] := (E479.far q462 b472.lt (by simp)).trans b472
      have f491 := f450.mono E479.mono
      have f498 := f478.mono E479.mono
      have f504 : Cz v479 (g479 7) (((m : Int) + 1) * ((2 ^ e : Nat) : Int)) := E479.facts 7 (by decide)
      obtain ⟨q507, p508, l509, o510⟩ : ∃ q, g479 9 = .pointer (some ⟨q, 0, none⟩) ∧ v440.heap.size ≤ q ∧ OkB v479 q 2 := E479.facts 9 (by decide)
      have h511 : w.heap.size ≤ q507 := Nat.le_trans HB l509
      obtain ⟨t517, x519, A520, m521, c522, e523, b518⟩ := put_info (E479.facts 10 (by decide)) p508 f504.shape
      have f524 : Cz v479 (.agg #[.bool x519, .slice A520 m521 c522]) (((m : Int) + 1) * ((2 ^ e : Nat) : Int)) := f504.at e523.symm
      refine then_normal ?_
      refine wp_seq ?_
      refine wp_seq ?_
      have HB : w.heap.size ≤ v479.heap.size := T480.size
      refine wp_plan_seq [.val (.is (.int .i64 0)), .val (.is (.bool false))] [] [] w.heap.size (by kernel_rfl) (by kernel_rfl) trivial HB ?_ ?_
      · exact ⟨fun s v h => does_val rfl rfl (x_move) ((h.same 17 rfl).trans e461),
      fun s v h => does_val rfl rfl (x_neq_err (h.dep 0 rfl) rfl) rfl, trivial⟩
      intro g525 ts v525 hts E525
      simp only [fillL, Nat.reduceAdd, List.setIfInBounds_toArray, List.set_cons_zero, List.set_cons_succ] at hts
      subst hts
      have T526 : Below w.heap.size w v525 := T480.trans E525.below
      have l527 : q6 < v479.heap.size := b486.lt
      have l528 : q110 < v479.heap.size := b487.lt
      have l529 : q182 < v479.heap.size := b488.lt
      have l530 : q235 < v479.heap.size := b489.lt
      have l531 : q462 < v479.heap.size := b490.lt
      have l532 : q507 < v479.heap.size := b518.lt
      have b533 : Bx v525 q6 24 #[.bool na0, .slice A0 n0 c0] := (E525.far q6 b486.lt (by simp)).trans b486
      have b534 : Bx v525 q110 t116 #[.bool x118, .slice A119 m120 c121] := (E525.far q110 b487.lt (by simp)).trans b487
      have b535 : Bx v525 q182 t189 #[.bool x191, .slice A192 m193 c194] := (E525.far q182 b488.lt (by simp)).trans b488
      have b536 : Bx v525 q235 t243 #[.bool x245, .slice A246 m247 c248] := (E525.far q235 b489.lt (by simp)).trans b489
      have b537 : Bx v525 q462 t471 #[.bool x473, .slice A474 m475 c476] := (E525.far q462 b490.lt (by simp)).trans b490
      have b538 : Bx v525 q507 t517 #[.bool x519, .slice A520 m521 c522] := (E525.far q507 b518.lt (by simp)).trans b518
      have f539 := f491.mono E525.mono
      have f546 := f498.mono E525.mono
      have f549 := f524.mono E525.mono
      have e551 : g525 1 = (.bool false) := E525.facts 1 (by decide)
      refine then_normal ?_
      refine wp_cond_false e551 ?_
      refine wp_skip ?_
      refine then_normal ?_
      refine wp_seq ?_
      have HB : w.heap.size ≤ v525.heap.size := T526.size
      refine wp_plan_any [.val (.cz ((m : Int) * ((2 ^ e : Nat) : Int))), .val (.az 1048576 z), .val (.cz (z.natAbs : Int)), .val (.is (.int .i64 (((m : Int) * ((2 ^ e : Nat) : Int)) - (z.natAbs : Int)).sign)), .val (.is (.bool true)), .val (.is (.bool true)), .val (.cz (((m : Int) + 1) * ((2 ^ e : Nat) : Int))), .val (.az 1048576 z), .val (.cz (z.natAbs : Int)), .val (.is (.int .i64 ((((m : Int) + 1) * ((2 ^ e : Nat) : Int)) - (z.natAbs : Int)).sign)), .val (.is (.bool true)), .val (.is (.bool true)), .val (.is (.bool true)), .val (.is (.bool b)), .val (.cz ((m : Int) * ((2 ^ e : Nat) : Int))), .val (.az 1048576 z), .val (.cz (z.natAbs : Int)), .val (.is (.bool (decide (((m : Int) * ((2 ^ e : Nat) : Int)) = (z.natAbs : Int))))), .val (.is (.bool true)), .val (.is (.bool true)), .val (.is (.bool true))] [] [] w.heap.size (by kernel_rfl) (by kernel_rfl) (by kernel_rfl) trivial HB ?_ ?_
      · exact ⟨fun s v h => does_val rfl rfl (x_load_z ((h.same 16 rfl).trans p463) ((h.far q462 b537.lt (by simp)).trans b537)) (f546.mono ((Mono.drew _).trans h.mono)),
      fun s v h => does_val rfl rfl (x_load_z ((h.same 2 rfl).trans p423) ((h.far q6 b533.lt (by simp)).trans b533)) (f539.mono ((Mono.drew _).trans h.mono)),
      fun s v h => does_call rfl rfl (x_call1 Try.call41) (abs_k (h.dep 1 rfl)),
      fun s v h => does_call rfl rfl (x_call2 Try.call40) (zcmp_k ((h.dep 0 rfl).az (N := 100000) lup) ((h.dep 2 rfl).az (N := 1048576) (len_abs la0))),
      fun s v h => does_val rfl rfl (x_leq (h.dep 3 rfl) rfl) (congrArg Value.bool p1),
      fun s v h => does_val rfl rfl (x_move) (h.dep 4 rfl),
      fun s v h => does_val rfl (wanted_by (b := true) (want := true) rfl rfl (h.dep 5 rfl)) (x_load_z ((h.same 18 rfl).trans p508) ((h.far q507 b538.lt (by simp)).trans b538)) (f549.mono ((Mono.drew _).trans h.mono)),
      fun s v h => does_val rfl (wanted_by (b := true) (want := true) rfl rfl (h.dep 5 rfl)) (x_load_z ((h.same 2 rfl).trans p423) ((h.far q6 b533.lt (by simp)).trans b533)) (f539.mono ((Mono.drew _).trans h.mono)),
      fun s v h => does_call rfl (wanted_by (b := true) (want := true) rfl rfl (h.dep 5 rfl)) (x_call1 Try.call41) (abs_k (h.dep 7 rfl)),
      fun s v h => does_call rfl (wanted_by (b := true) (want := true) rfl rfl (h.dep 5 rfl)) (x_call2 Try.call40) (zcmp_k ((h.dep 6 rfl).az (N := 100000) lnx) ((h.dep 8 rfl).az (N := 1048576) (len_abs la0))),
      fun s v h => does_val rfl (wanted_by (b := true) (want := true) rfl rfl (h.dep 5 rfl)) (x_gtr (h.dep 9 rfl) rfl) (congrArg Value.bool p2),
      fun s v h => does_val rfl rfl (x_pick (h.dep 5 rfl)) (h.dep 10 rfl),
      fun s v h => does_val rfl rfl (x_move) (h.dep 11 rfl),
      fun s v h => does_val rfl (wanted_by (b := true) (want := true) rfl rfl (h.dep 12 rfl)) (x_move) ((h.same 15 rfl).trans p429),
      fun s v h => does_val rfl (wanted_by (b := true) (want := true) rfl rfl (h.dep 12 rfl)) (x_load_z ((h.same 16 rfl).trans p463) ((h.far q462 b537.lt (by simp)).trans b537)) (f546.mono ((Mono.drew _).trans h.mono)),
      fun s v h => does_val rfl (wanted_by (b := true) (want := true) rfl rfl (h.dep 12 rfl)) (x_load_z ((h.same 2 rfl).trans p423) ((h.far q6 b533.lt (by simp)).trans b533)) (f539.mono ((Mono.drew _).trans h.mono)),
      fun s v h => does_call rfl (wanted_by (b := true) (want := true) rfl rfl (h.dep 12 rfl)) (x_call1 Try.call41) (abs_k (h.dep 15 rfl)),
      fun s v h => does_call rfl (wanted_by (b := true) (want := true) rfl rfl (h.dep 12 rfl)) (x_call2 Try.call12) (eq_any (h.dep 14 rfl) (h.dep 16 rfl)),
      fun s v h => does_val rfl (wanted_by (b := true) (want := true) rfl rfl (h.dep 12 rfl)) (x_eql_bool (h.dep 13 rfl) (h.dep 17 rfl)) (congrArg Value.bool p3),
      fun s v h => does_val rfl rfl (x_pick (h.dep 12 rfl)) (h.dep 18 rfl),
      fun s v h => does_val rfl rfl (x_assign) (h.dep 19 rfl), trivial⟩
      intro g552 ts v552 hts E552
      simp only [fillL, Nat.reduceAdd, List.setIfInBounds_toArray, List.set_cons_zero, List.set_cons_succ] at hts
      subst hts
      have T553 : Below w.heap.size w v552 := (below_toDrew T526).trans E552.below
      have l554 : q6 < v525.heap.size := b533.lt
      have l555 : q110 < v525.heap.size := b534.lt
      have l556 : q182 < v525.heap.size := b535.lt
      have l557 : q235 < v525.heap.size := b536.lt
      have l558 : q462 < v525.heap.size := b537.lt
      have l559 : q507 < v525.heap.size := b538.lt
      have e597 : g552 20 = (.bool true) := E552.facts 20 (by decide)
      refine then_normal ?_
      refine wp_ret ?_
      exact bodyPost_ret (results_tmp (t := 4) rfl _ _ _) rfl ⟨_, rfl, e597, T553⟩
    · skip
      have HB : w.heap.size ≤ v422.heap.size := T430.size
      refine wp_plan_seq [.val (.is (.int .u64 (m : Int))), .val (.is (.int .i64 (m : Int))), .val (.cz (m : Int)), .val (.is (.int .i64 (e : Int))), .val (.tup2 (.cz 0) (.is (.int .i64 2))), .val (.tup2 (.cz 0) (.is (.int .i64 2))), .val (.cz 0), .val (.is (.int .i64 2)), .new 2 none, .put 16 122, .val (.is (.int .i64 2))] [] [] w.heap.size (by kernel_rfl) (by kernel_rfl) trivial HB ?_ ?_
      · exact ⟨fun s v h => does_val rfl rfl (x_move) ((h.same 13 rfl).trans p427),
      fun s v h => does_val rfl rfl (x_conv_u_i (h.dep 0 rfl) (IntWalk.i64_in _ (by omega))) rfl,
      fun s v h => does_call rfl rfl (x_call1 Try.call42) (of_k (h.dep 1 rfl) (by omega) (by omega)),
      fun s v h => does_val rfl rfl (x_move) ((h.same 14 rfl).trans p428),
      fun s v h => does_call rfl rfl (x_call2 Try.call37) (two_arg (h.dep 3 rfl) (zshift_a ((h.dep 2 rfl).az (N := 2) lm) (by omega) s1)),
      fun s v h => does_val rfl rfl (x_move) (h.dep 4 rfl),
      fun s v h => by obtain ⟨r0, r1, e, f0, f1⟩ := tup2_at (h.dep 5 rfl); exact does_val rfl rfl (x_ext e rfl) f0,
      fun s v h => by obtain ⟨r0, r1, e, f0, f1⟩ := tup2_at (h.dep 5 rfl); exact does_val rfl rfl (x_ext e rfl) f1,
      fun s v h => does_new rfl rfl x_alloc_z (okz _ _ _ _) rfl (.inl rfl),
      fun s v h => by obtain ⟨q, e1, e2, e3⟩ := new_at (h.dep 8 rfl); exact does_put_z rfl rfl e1 (h.dep 6 rfl).shape e3 (Nat.le_trans HB e2),
      fun s v h => does_val rfl rfl (x_assign) (h.dep 7 rfl), trivial⟩
      intro g598 ts v598 hts E598
      simp only [fillL, Nat.reduceAdd, List.setIfInBounds_toArray, List.set_cons_zero, List.set_cons_succ] at hts
      subst hts
      have T599 : Below w.heap.size w v598 := T430.trans E598.below
      have l600 : q6 < v422.heap.size := b431.lt
      have l601 : q110 < v422.heap.size := b433.lt
      have l602 : q182 < v422.heap.size := b435.lt
      have l603 : q235 < v422.heap.size := b437.lt
      have b604 : Bx v598 q6 24 #[.bool na0, .slice A0 n0 c0] := (E598.far q6 b431.lt (by simp)).trans b431
      have b605 : Bx v598 q110 t116 #[.bool x118, .slice A119 m120 c121] := (E598.far q110 b433.lt (by simp)).trans b433
      have b606 : Bx v598 q182 t189 #[.bool x191, .slice A192 m193 c194] := (E598.far q182 b435.lt (by simp)).trans b435
      have b607 : Bx v598 q235 t243 #[.bool x245, .slice A246 m247 c248] := (E598.far q235 b437.lt (by simp)).trans b437
      have f617 : Cz v598 (g598 6) 0 := E598.facts 6 (by decide)
      have e619 : g598 10 = (.int .i64 2) := E598.facts 10 (by decide)
      obtain ⟨q620, p621, l622, o623⟩ : ∃ q, g598 8 = .pointer (some ⟨q, 0, none⟩) ∧ v422.heap.size ≤ q ∧ OkB v598 q 2 := E598.facts 8 (by decide)
      have h624 : w.heap.size ≤ q620 := Nat.le_trans HB l622
      obtain ⟨t629, x631, A632, m633, c634, e635, b630⟩ := put_info (E598.facts 9 (by decide)) p621 f617.shape
      refine then_normal ?_
      refine wp_seq ?_
      have HB : w.heap.size ≤ v598.heap.size := T599.size
      refine wp_plan_seq [.val (.is (.int .u64 (m : Int))), .val (.is (.int .i64 (m : Int))), .val (.is (.int .i64 ((m : Int) + 1))), .val (.cz ((m : Int) + 1)), .val (.is (.int .i64 (e : Int))), .val (.tup2 (.cz 0) (.is (.int .i64 2))), .val (.tup2 (.cz 0) (.is (.int .i64 2))), .val (.cz 0), .val (.is (.int .i64 2)), .new 2 none, .put 18 131, .val (.is (.int .i64 2))] [] [] w.heap.size (by kernel_rfl) (by kernel_rfl) trivial HB ?_ ?_
      · exact ⟨fun s v h => does_val rfl rfl (x_move) ((h.same 13 rfl).trans p427),
      fun s v h => does_val rfl rfl (x_conv_u_i (h.dep 0 rfl) (IntWalk.i64_in _ (by omega))) rfl,
      fun s v h => does_val rfl rfl (x_add_i64 (h.dep 1 rfl) rfl (by rw [IntKind.wrap_i64]; omega)) rfl,
      fun s v h => does_call rfl rfl (x_call1 Try.call42) (of_k (h.dep 2 rfl) (by omega) (by omega)),
      fun s v h => does_val rfl rfl (x_move) ((h.same 14 rfl).trans p428),
      fun s v h => does_call rfl rfl (x_call2 Try.call37) (two_arg (h.dep 4 rfl) (zshift_a ((h.dep 3 rfl).az (N := 2) lm1) (by omega) s1)),
      fun s v h => does_val rfl rfl (x_move) (h.dep 5 rfl),
      fun s v h => by obtain ⟨r0, r1, e, f0, f1⟩ := tup2_at (h.dep 6 rfl); exact does_val rfl rfl (x_ext e rfl) f0,
      fun s v h => by obtain ⟨r0, r1, e, f0, f1⟩ := tup2_at (h.dep 6 rfl); exact does_val rfl rfl (x_ext e rfl) f1,
      fun s v h => does_new rfl rfl x_alloc_z (okz _ _ _ _) rfl (.inl rfl),
      fun s v h => by obtain ⟨q, e1, e2, e3⟩ := new_at (h.dep 9 rfl); exact does_put_z rfl rfl e1 (h.dep 7 rfl).shape e3 (Nat.le_trans HB e2),
      fun s v h => does_val rfl rfl (x_assign) (h.dep 8 rfl), trivial⟩
      intro g637 ts v637 hts E637
      simp only [fillL, Nat.reduceAdd, List.setIfInBounds_toArray, List.set_cons_zero, List.set_cons_succ] at hts
      subst hts
      have T638 : Below w.heap.size w v637 := T599.trans E637.below
      have l639 : q6 < v598.heap.size := b604.lt
      have l640 : q110 < v598.heap.size := b605.lt
      have l641 : q182 < v598.heap.size := b606.lt
      have l642 : q235 < v598.heap.size := b607.lt
      have l643 : q620 < v598.heap.size := b630.lt
      have b644 : Bx v637 q6 24 #[.bool na0, .slice A0 n0 c0] := (E637.far q6 b604.lt (by simp)).trans b604
      have b645 : Bx v637 q110 t116 #[.bool x118, .slice A119 m120 c121] := (E637.far q110 b605.lt (by simp)).trans b605
      have b646 : Bx v637 q182 t189 #[.bool x191, .slice A192 m193 c194] := (E637.far q182 b606.lt (by simp)).trans b606
      have b647 : Bx v637 q235 t243 #[.bool x245, .slice A246 m247 c248] := (E637.far q235 b607.lt (by simp)).trans b607
      have b648 : Bx v637 q620 t629 #[.bool x631, .slice A632 m633 c634] := (E637.far q620 b630.lt (by simp)).trans b630
      have f662 : Cz v637 (g637 7) 0 := E637.facts 7 (by decide)
      obtain ⟨q665, p666, l667, o668⟩ : ∃ q, g637 9 = .pointer (some ⟨q, 0, none⟩) ∧ v598.heap.size ≤ q ∧ OkB v637 q 2 := E637.facts 9 (by decide)
      have h669 : w.heap.size ≤ q665 := Nat.le_trans HB l667
      obtain ⟨t675, x677, A678, m679, c680, e681, b676⟩ := put_info (E637.facts 10 (by decide)) p666 f662.shape
      refine then_normal ?_
      refine wp_seq ?_
      refine wp_seq ?_
      have HB : w.heap.size ≤ v637.heap.size := T638.size
      refine wp_plan_seq [.val (.is (.int .i64 2)), .val (.is (.bool true))] [] [] w.heap.size (by kernel_rfl) (by kernel_rfl) trivial HB ?_ ?_
      · exact ⟨fun s v h => does_val rfl rfl (x_move) ((h.same 17 rfl).trans e619),
      fun s v h => does_val rfl rfl (x_neq_err (h.dep 0 rfl) rfl) rfl, trivial⟩
      intro g683 ts v683 hts E683
      simp only [fillL, Nat.reduceAdd, List.setIfInBounds_toArray, List.set_cons_zero, List.set_cons_succ] at hts
      subst hts
      have T684 : Below w.heap.size w v683 := T638.trans E683.below
      have l685 : q6 < v637.heap.size := b644.lt
      have l686 : q110 < v637.heap.size := b645.lt
      have l687 : q182 < v637.heap.size := b646.lt
      have l688 : q235 < v637.heap.size := b647.lt
      have l689 : q620 < v637.heap.size := b648.lt
      have l690 : q665 < v637.heap.size := b676.lt
      have b691 : Bx v683 q6 24 #[.bool na0, .slice A0 n0 c0] := (E683.far q6 b644.lt (by simp)).trans b644
      have b692 : Bx v683 q110 t116 #[.bool x118, .slice A119 m120 c121] := (E683.far q110 b645.lt (by simp)).trans b645
      have b693 : Bx v683 q182 t189 #[.bool x191, .slice A192 m193 c194] := (E683.far q182 b646.lt (by simp)).trans b646
      have b694 : Bx v683 q235 t243 #[.bool x245, .slice A246 m247 c248] := (E683.far q235 b647.lt (by simp)).trans b647
      have b695 : Bx v683 q620 t629 #[.bool x631, .slice A632 m633 c634] := (E683.far q620 b648.lt (by simp)).trans b648
      have b696 : Bx v683 q665 t675 #[.bool x677, .slice A678 m679 c680] := (E683.far q665 b676.lt (by simp)).trans b676
      have e709 : g683 1 = (.bool true) := E683.facts 1 (by decide)
      refine then_normal ?_
      refine wp_cond_true e709 ?_
      refine wp_seq ?_
      have HB : w.heap.size ≤ v683.heap.size := T684.size
      refine wp_plan_seq [.val (.is (.int .i64 (e : Int))), .val (.is (.bool true)), .val (.is (.bool true))] [] [] w.heap.size (by kernel_rfl) (by kernel_rfl) trivial HB ?_ ?_
      · exact ⟨fun s v h => does_val rfl rfl (x_move) ((h.same 14 rfl).trans p428),
      fun s v h => does_val rfl rfl (x_gtr (h.dep 0 rfl) rfl) (congrArg Value.bool s1),
      fun s v h => does_val rfl rfl (x_assign) (h.dep 1 rfl), trivial⟩
      intro g710 ts v710 hts E710
      simp only [fillL, Nat.reduceAdd, List.setIfInBounds_toArray, List.set_cons_zero, List.set_cons_succ] at hts
      subst hts
      have T711 : Below w.heap.size w v710 := T684.trans E710.below
      have l712 : q6 < v683.heap.size := b691.lt
      have l713 : q110 < v683.heap.size := b692.lt
      have l714 : q182 < v683.heap.size := b693.lt
      have l715 : q235 < v683.heap.size := b694.lt
      have l716 : q620 < v683.heap.size := b695.lt
      have l717 : q665 < v683.heap.size := b696.lt
      have e737 : g710 2 = (.bool true) := E710.facts 2 (by decide)
      refine then_normal ?_
      refine wp_ret ?_
      exact bodyPost_ret (results_tmp (t := 4) rfl _ _ _) rfl ⟨_, rfl, e737, T711⟩
  · skip
    have r1 := neg_fact hsg
    have HB : w.heap.size ≤ v160.heap.size := T163.size
    refine wp_plan_seq [.val (.az 1048576 z), .val (.tup2 (.cz 0) (.is (.int .i64 21))), .val (.tup2 (.cz 0) (.is (.int .i64 21))), .val (.cz 0), .val (.is (.int .i64 21)), .new 2 none, .put 11 62, .val (.is (.int .i64 21))] [] [] w.heap.size (by kernel_rfl) (by kernel_rfl) trivial HB ?_ ?_
    · exact ⟨fun s v h => does_val rfl rfl (x_load_z ((h.same 2 rfl).trans p161) ((h.far q6 b164.lt (by simp)).trans b164)) (f165.mono h.mono),
      fun s v h => does_call rfl rfl (x_call1 Try.call17) (zroot_b (h.dep 0 rfl) hsg),
      fun s v h => does_val rfl rfl (x_move) (h.dep 1 rfl),
      fun s v h => by obtain ⟨r0, r1, e, f0, f1⟩ := tup2_at (h.dep 2 rfl); exact does_val rfl rfl (x_ext e rfl) f0,
      fun s v h => by obtain ⟨r0, r1, e, f0, f1⟩ := tup2_at (h.dep 2 rfl); exact does_val rfl rfl (x_ext e rfl) f1,
      fun s v h => does_new rfl rfl x_alloc_z (okz _ _ _ _) rfl (.inl rfl),
      fun s v h => by obtain ⟨q, e1, e2, e3⟩ := new_at (h.dep 5 rfl); exact does_put_z rfl rfl e1 (h.dep 3 rfl).shape e3 (Nat.le_trans HB e2),
      fun s v h => does_val rfl rfl (x_assign) (h.dep 4 rfl), trivial⟩
    intro g738 ts v738 hts E738
    simp only [fillL, Nat.reduceAdd, List.setIfInBounds_toArray, List.set_cons_zero, List.set_cons_succ] at hts
    subst hts
    have T739 : Below w.heap.size w v738 := T163.trans E738.below
    have l740 : q6 < v160.heap.size := b164.lt
    have l741 : q110 < v160.heap.size := b166.lt
    have b742 : Bx v738 q6 24 #[.bool na0, .slice A0 n0 c0] := (E738.far q6 b164.lt (by simp)).trans b164
    have b743 : Bx v738 q110 t116 #[.bool x118, .slice A119 m120 c121] := (E738.far q110 b166.lt (by simp)).trans b166
    have f744 := f165.mono E738.mono
    have f745 := m168.mono E738.mono
    have f746 := f167.mono E738.mono
    have f748 : Cz v738 (g738 3) 0 := E738.facts 3 (by decide)
    have e750 : g738 7 = (.int .i64 21) := E738.facts 7 (by decide)
    obtain ⟨q751, p752, l753, o754⟩ : ∃ q, g738 5 = .pointer (some ⟨q, 0, none⟩) ∧ v160.heap.size ≤ q ∧ OkB v738 q 2 := E738.facts 5 (by decide)
    have h755 : w.heap.size ≤ q751 := Nat.le_trans HB l753
    obtain ⟨t758, x760, A761, m762, c763, e764, b759⟩ := put_info (E738.facts 6 (by decide)) p752 f748.shape
    have f765 : Cz v738 (.agg #[.bool x760, .slice A761 m762 c763]) 0 := f748.at e764.symm
    refine then_normal ?_
    refine wp_seq ?_
    refine wp_seq ?_
    have HB : w.heap.size ≤ v738.heap.size := T739.size
    refine wp_plan_seq [.val (.is (.int .i64 21)), .val (.is (.bool false)), .val (.az 1048576 z), .val (.is (.int .i64 z.sign)), .val (.is (.bool false)), .val (.is (.bool false))] [] [] w.heap.size (by kernel_rfl) (by kernel_rfl) trivial HB ?_ ?_
    · exact ⟨fun s v h => does_val rfl rfl (x_move) ((h.same 10 rfl).trans e750),
      fun s v h => does_val rfl rfl (x_eql_err (h.dep 0 rfl) rfl) rfl,
      fun s v h => does_val rfl rfl (x_load_z ((h.same 2 rfl).trans p161) ((h.far q6 b742.lt (by simp)).trans b742)) (f744.mono h.mono),
      fun s v h => does_call rfl rfl (x_call1 Try.call39) (sign_k (h.dep 2 rfl)),
      fun s v h => does_val rfl rfl (x_geq (h.dep 3 rfl) rfl) (congrArg Value.bool r1),
      fun s v h => does_val rfl rfl (x_neq_bool (h.dep 1 rfl) (h.dep 4 rfl)) rfl, trivial⟩
    intro g766 ts v766 hts E766
    simp only [fillL, Nat.reduceAdd, List.setIfInBounds_toArray, List.set_cons_zero, List.set_cons_succ] at hts
    subst hts
    have T767 : Below w.heap.size w v766 := T739.trans E766.below
    have l768 : q6 < v738.heap.size := b742.lt
    have l769 : q110 < v738.heap.size := b743.lt
    have l770 : q751 < v738.heap.size := b759.lt
    have b771 : Bx v766 q6 24 #[.bool na0, .slice A0 n0 c0] := (E766.far q6 b742.lt (by simp)).trans b742
    have b772 : Bx v766 q110 t116 #[.bool x118, .slice A119 m120 c121] := (E766.far q110 b743.lt (by simp)).trans b743
    have b773 : Bx v766 q751 t758 #[.bool x760, .slice A761 m762 c763] := (E766.far q751 b759.lt (by simp)).trans b759
    have f774 := f744.mono E766.mono
    have f775 := f745.mono E766.mono
    have f776 := f746.mono E766.mono
    have f779 := f765.mono E766.mono
    have e785 : g766 5 = (.bool false) := E766.facts 5 (by decide)
    refine then_normal ?_
    refine wp_cond_false e785 ?_
    refine wp_skip ?_
    refine then_normal ?_
    refine wp_seq ?_
    have HB : w.heap.size ≤ v766.heap.size := T767.size
    refine wp_plan_any [.val (.cz 0), .val (.cz 1), .val (.cz (0 + 1)), .new 2 none, .put 12 72] [] [] w.heap.size (by kernel_rfl) (by kernel_rfl) (by kernel_rfl) trivial HB ?_ ?_
    · exact ⟨fun s v h => does_val rfl rfl (x_load_z ((h.same 11 rfl).trans p752) ((h.far q751 b773.lt (by simp)).trans b773)) (f779.mono ((Mono.drew _).trans h.mono)),
      fun s v h => does_call rfl rfl (x_call1 Try.call42) (of_k rfl (by decide) (by decide)),
      fun s v h => does_call rfl rfl (x_call2 Try.call14) (add_k ((h.dep 0 rfl).az (N := 0) (by simp [digs_zero])) ((h.dep 1 rfl).az (N := 1) (show (digs (Int.natAbs 1)).length ≤ 1 from digs_len_le (by decide))) (by omega) (by omega)),
      fun s v h => does_new rfl rfl x_alloc_z (okz _ _ _ _) rfl (.inl rfl),
      fun s v h => by obtain ⟨q, e1, e2, e3⟩ := new_at (h.dep 3 rfl); exact does_put_z rfl rfl e1 (h.dep 2 rfl).shape e3 (Nat.le_trans HB e2), trivial⟩
    intro g786 ts v786 hts E786
    simp only [fillL, Nat.reduceAdd, List.setIfInBounds_toArray, List.set_cons_zero, List.set_cons_succ] at hts
    subst hts
    have T787 : Below w.heap.size w v786 := (below_toDrew T767).trans E786.below
    have l788 : q6 < v766.heap.size := b771.lt
    have l789 : q110 < v766.heap.size := b772.lt
    have l790 : q751 < v766.heap.size := b773.lt
    have b791 : Bx v786 q6 24 #[.bool na0, .slice A0 n0 c0] := (E786.far q6 b771.lt (by simp)).trans b771
    have b792 : Bx v786 q110 t116 #[.bool x118, .slice A119 m120 c121] := (E786.far q110 b772.lt (by simp)).trans b772
    have b793 : Bx v786 q751 t758 #[.bool x760, .slice A761 m762 c763] := (E786.far q751 b773.lt (by simp)).trans b773
    have f794 := f774.mono ((Mono.drew _).trans E786.mono)
    have f795 := f775.mono ((Mono.drew _).trans E786.mono)
    have f796 := f776.mono ((Mono.drew _).trans E786.mono)
    have f799 := f779.mono ((Mono.drew _).trans E786.mono)
    have f803 : Cz v786 (g786 2) (0 + 1) := E786.facts 2 (by decide)
    obtain ⟨q804, p805, l806, o807⟩ : ∃ q, g786 3 = .pointer (some ⟨q, 0, none⟩) ∧ v766.heap.size ≤ q ∧ OkB v786 q 2 := E786.facts 3 (by decide)
    have h808 : w.heap.size ≤ q804 := Nat.le_trans HB l806
    obtain ⟨t812, x814, A815, m816, c817, e818, b813⟩ := put_info (E786.facts 4 (by decide)) p805 f803.shape
    have f819 : Cz v786 (.agg #[.bool x814, .slice A815 m816 c817]) (0 + 1) := f803.at e818.symm
    refine then_normal ?_
    refine wp_seq ?_
    refine wp_seq ?_
    have HB : w.heap.size ≤ v786.heap.size := T787.size
    refine wp_plan_any [.val (.is (.int .i64 21)), .val (.is (.bool false)), .val (.is (.bool false)), .val (.is undef), .val (.is undef), .val (.is undef), .val (.is undef), .val (.is undef), .val (.is undef), .val (.is undef), .val (.is undef), .val (.is undef), .val (.is undef), .val (.is undef), .val (.is undef), .val (.is undef), .val (.is undef), .val (.is undef), .val (.is undef), .val (.is undef), .val (.is undef), .val (.is undef), .val (.is (.bool false))] [] [] w.heap.size (by kernel_rfl) (by kernel_rfl) (by kernel_rfl) trivial HB ?_ ?_
    · exact ⟨fun s v h => does_val rfl rfl (x_move) ((h.same 10 rfl).trans e750),
      fun s v h => does_val rfl rfl (x_eql_err (h.dep 0 rfl) rfl) rfl,
      fun s v h => does_val rfl rfl (x_move) (h.dep 1 rfl),
      fun s v h => does_skip rfl (wanted_by (b := false) (want := true) rfl rfl (h.dep 2 rfl)) rfl,
      fun s v h => does_skip rfl (wanted_by (b := false) (want := true) rfl rfl (h.dep 2 rfl)) rfl,
      fun s v h => does_skip rfl (wanted_by (b := false) (want := true) rfl rfl (h.dep 2 rfl)) rfl,
      fun s v h => does_skip rfl (wanted_by (b := false) (want := true) rfl rfl (h.dep 2 rfl)) rfl,
      fun s v h => does_skip rfl (unwanted_by (want := false) rfl rfl (h.dep 6 rfl)) rfl,
      fun s v h => does_skip rfl (unwanted_by (want := false) rfl rfl (h.dep 6 rfl)) rfl,
      fun s v h => does_skip rfl (unwanted_by (want := false) rfl rfl (h.dep 6 rfl)) rfl,
      fun s v h => does_skip rfl (unwanted_by (want := false) rfl rfl (h.dep 6 rfl)) rfl,
      fun s v h => does_skip rfl (unwanted_by (want := false) rfl rfl (h.dep 6 rfl)) rfl,
      fun s v h => does_skip rfl (unwanted_by (want := false) rfl rfl (h.dep 6 rfl)) rfl,
      fun s v h => does_skip rfl (wanted_by (b := false) (want := true) rfl rfl (h.dep 2 rfl)) rfl,
      fun s v h => does_skip rfl (wanted_by (b := false) (want := true) rfl rfl (h.dep 2 rfl)) rfl,
      fun s v h => does_skip rfl (unwanted_by (want := false) rfl rfl (h.dep 14 rfl)) rfl,
      fun s v h => does_skip rfl (unwanted_by (want := false) rfl rfl (h.dep 14 rfl)) rfl,
      fun s v h => does_skip rfl (unwanted_by (want := false) rfl rfl (h.dep 14 rfl)) rfl,
      fun s v h => does_skip rfl (unwanted_by (want := false) rfl rfl (h.dep 14 rfl)) rfl,
      fun s v h => does_skip rfl (unwanted_by (want := false) rfl rfl (h.dep 14 rfl)) rfl,
      fun s v h => does_skip rfl (unwanted_by (want := false) rfl rfl (h.dep 14 rfl)) rfl,
      fun s v h => does_skip rfl (wanted_by (b := false) (want := true) rfl rfl (h.dep 2 rfl)) rfl,
      fun s v h => does_val rfl rfl (x_pick (h.dep 2 rfl)) rfl, trivial⟩
    intro g820 ts v820 hts E820
    simp only [fillL, Nat.reduceAdd, List.setIfInBounds_toArray, List.set_cons_zero, List.set_cons_succ] at hts
    subst hts
    have T821 : Below w.heap.size w v820 := (below_toDrew T787).trans E820.below
    have l822 : q6 < v786.heap.size := b791.lt
    have l823 : q110 < v786.heap.size := b792.lt
    have l824 : q751 < v786.heap.size := b793.lt
    have l825 : q804 < v786.heap.size := b813.lt
    have b826 : Bx v820 q6 24 #[.bool na0, .slice A0 n0 c0] := (E820.far q6 b791.lt (by simp)).trans b791
    have b827 : Bx v820 q110 t116 #[.bool x118, .slice A119 m120 c121] := (E820.far q110 b792.lt (by simp)).trans b792
    have b828 : Bx v820 q751 t758 #[.bool x760, .slice A761 m762 c763] := (E820.far q751 b793.lt (by simp)).trans b793
    have b829 : Bx v820 q804 t812 #[.bool x814, .slice A815 m816 c817] := (E820.far q804 b813.lt (by simp)).trans b813
    have f830 := f794.mono ((Mono.drew _).trans E820.mono)
    have f831 := f795.mono ((Mono.drew _).trans E820.mono)
    have f832 := f796.mono ((Mono.drew _).trans E820.mono)
    have f835 := f799.mono ((Mono.drew _).trans E820.mono)
    have f840 := f819.mono ((Mono.drew _).trans E820.mono)
    have e863 : g820 22 = (.bool false) := E820.facts 22 (by decide)
    refine then_normal ?_
    refine wp_cond_false e863 ?_
    refine wp_skip ?_
    refine then_normal ?_
    refine wp_seq ?_
    have HB : w.heap.size ≤ v820.heap.size := T821.size
    refine wp_plan_seq [.val (.az 1048576 z), .val (.tup3 (.is (.int .u64 (m : Int))) (.is (.int .i64 (e : Int))) (.is (.bool b))), .val (.tup3 (.is (.int .u64 (m : Int))) (.is (.int .i64 (e : Int))) (.is (.bool b))), .val (.is (.int .u64 (m : Int))), .val (.is (.int .i64 (e : Int))), .val (.is (.bool b)), .val (.is (.int .u64 (m : Int))), .val (.is (.int .i64 (e : Int))), .val (.is (.bool b))] [] [] w.heap.size (by kernel_rfl) (by kernel_rfl) trivial HB ?_ ?_
    · exact ⟨fun s v h => does_val rfl rfl (x_load_z ((h.same 2 rfl).trans p161) ((h.far q6 b826.lt (by simp)).trans b826)) (f830.mono h.mono),
      fun s v h => does_call rfl rfl (x_call1 Try.call22) (hm ▸ ztop_k (h.dep 0 rfl) (by omega) he (Lib.hid (hm.symm ▸ hm1)) b hb),
      fun s v h => does_val rfl rfl (x_move) (h.dep 1 rfl),
      fun s v h => by obtain ⟨r0, r1, r2, e, f0, f1, f2⟩ := tup3_at (h.dep 2 rfl); exact does_val rfl rfl (x_ext e rfl) f0,
      fun s v h => by obtain ⟨r0, r1, r2, e, f0, f1, f2⟩ := tup3_at (h.dep 2 rfl); exact does_val rfl rfl (x_ext e rfl) f1,
      fun s v h => by obtain ⟨r0, r1, r2, e, f0, f1, f2⟩ := tup3_at (h.dep 2 rfl); exact does_val rfl rfl (x_ext e rfl) f2,
      fun s v h => does_val rfl rfl (x_assign) (h.dep 3 rfl),
      fun s v h => does_val rfl rfl (x_assign) (h.dep 4 rfl),
      fun s v h => does_val rfl rfl (x_assign) (h.dep 5 rfl), trivial⟩
    intro g864 ts v864 hts E864
    simp only [fillL, Nat.reduceAdd, List.setIfInBounds_toArray, List.set_cons_zero, List.set_cons_succ] at hts
    subst hts
    have T865 : Below w.heap.size w v864 := T821.trans E864.below
    have l866 : q6 < v820.heap.size := b826.lt
    have l867 : q110 < v820.heap.size := b827.lt
    have l868 : q751 < v820.heap.size := b828.lt
    have l869 : q804 < v820.heap.size := b829.lt
    have b870 : Bx v864 q6 24 #[.bool na0, .slice A0 n0 c0] := (E864.far q6 b826.lt (by simp)).trans b826
    have b871 : Bx v864 q110 t116 #[.bool x118, .slice A119 m120 c121] := (E864.far q110 b827.lt (by simp)).trans b827
    have b872 : Bx v864 q751 t758 #[.bool x760, .slice A761 m762 c763] := (E864.far q751 b828.lt (by simp)).trans b828
    have b873 : Bx v864 q804 t812 #[.bool x814, .slice A815 m816 c817] := (E864.far q804 b829.lt (by simp)).trans b829
    have f874 := f830.mono E864.mono
    have f875 := f831.mono E864.mono
    have f876 := f832.mono E864.mono
    have f879 := f835.mono E864.mono
    have f884 := f840.mono E864.mono
    have e889 : g864 6 = (.int .u64 (m : Int)) := E864.facts 6 (by decide)
    have e890 : g864 7 = (.int .i64 (e : Int)) := E864.facts 7 (by decide)
    have e891 : g864 8 = (.bool b) := E864.facts 8 (by decide)
    refine then_normal ?_
    refine wp_seq ?_
    refine wp_cut_v 157 (fun y wL => y 2 = .pointer (some ⟨q6, 0, none⟩) ∧ y 8 = .pointer (some ⟨q110, 0, none⟩) ∧ y 11 = .pointer (some ⟨q751, 0, none⟩) ∧ y 12 = .pointer (some ⟨q804, 0, none⟩) ∧ y 13 = (.int .u64 (m : Int)) ∧ y 14 = (.int .i64 (e : Int)) ∧ y 15 = (.bool b) ∧ Below w.heap.size w wL ∧ Bx wL q6 24 #[.bool na0, .slice A0 n0 c0] ∧ Az 1048576 wL (.agg #[.bool na0, .slice A0 n0 c0]) z ∧ Bx wL q110 t116 #[.bool x118, .slice A119 m120 c121] ∧ Cz wL (.agg #[.bool x118, .slice A119 m120 c121]) zs ∧ Bx wL q751 t758 #[.bool x760, .slice A761 m762 c763] ∧ Cz wL (.agg #[.bool x760, .slice A761 m762 c763]) 0 ∧ Bx wL q804 t812 #[.bool x814, .slice A815 m816 c817] ∧ Cz wL (.agg #[.bool x814, .slice A815 m816 c817]) (0 + 1) ∧ Nz 1048576 wL (.slice A0 n0 c0) M0 ∧ (True)) ?_ ?_
    · skip
      refine wp_seq ?_
      rcases t1 : (decide (0 < (e : Int))) with _ | _
      · skip
        have HB : w.heap.size ≤ v864.heap.size := T865.size
        refine wp_plan_seq [.val (.is (.int .u64 (m : Int))), .val (.is (.bool false)), .val (.is (.bool false)), .val (.is (.int .i64 (e : Int))), .val (.is (.bool false)), .val (.is (.bool false)), .val (.is (.bool false)), .val (.is (.int .i64 (e : Int))), .val (.is (.bool false)), .val (.is (.bool false)), .val (.is undef), .val (.is undef), .val (.is (.bool false)), .val (.is (.bool false))] [] [] w.heap.size (by kernel_rfl) (by kernel_rfl) trivial HB ?_ ?_
        · exact ⟨fun s v h => does_val rfl rfl (x_move) ((h.same 13 rfl).trans e889),
      fun s v h => does_val rfl rfl (x_geq (h.dep 0 rfl) rfl) (congrArg Value.bool gA),
      fun s v h => does_val rfl rfl (x_move) (h.dep 1 rfl),
      fun s v h => does_val rfl (wanted_by (b := false) (want := false) rfl rfl (h.dep 2 rfl)) (x_move) ((h.same 14 rfl).trans e890),
      fun s v h => does_val rfl (wanted_by (b := false) (want := false) rfl rfl (h.dep 2 rfl)) (x_lss (h.dep 3 rfl) rfl) (congrArg Value.bool gB),
      fun s v h => does_val rfl rfl (x_pick (h.dep 2 rfl)) (h.dep 4 rfl),
      fun s v h => does_val rfl rfl (x_move) (h.dep 5 rfl),
      fun s v h => does_val rfl (wanted_by (b := false) (want := false) rfl rfl (h.dep 6 rfl)) (x_move) ((h.same 14 rfl).trans e890),
      fun s v h => does_val rfl (wanted_by (b := false) (want := false) rfl rfl (h.dep 6 rfl)) (x_gtr (h.dep 7 rfl) rfl) (congrArg Value.bool t1),
      fun s v h => does_val rfl (wanted_by (b := false) (want := false) rfl rfl (h.dep 6 rfl)) (x_move) (h.dep 8 rfl),
      fun s v h => does_skip rfl (wanted_by (b := false) (want := true) rfl rfl (h.dep 9 rfl)) rfl,
      fun s v h => does_skip rfl (wanted_by (b := false) (want := true) rfl rfl (h.dep 9 rfl)) rfl,
      fun s v h => does_val rfl (wanted_by (b := false) (want := false) rfl rfl (h.dep 6 rfl)) (x_pick (h.dep 9 rfl)) rfl,
      fun s v h => does_val rfl rfl (x_pick (h.dep 6 rfl)) (h.dep 12 rfl), trivial⟩
        intro g892 ts v892 hts E892
        simp only [fillL, Nat.reduceAdd, List.setIfInBounds_toArray, List.set_cons_zero, List.set_cons_succ] at hts
        subst hts
        have T893 : Below w.heap.size w v892 := T865.trans E892.below
        have l894 : q6 < v864.heap.size := b870.lt
        have l895 : q110 < v864.heap.size := b871.lt
        have l896 : q751 < v864.heap.size := b872.lt
        have l897 : q804 < v864.heap.size := b873.lt
        have b898 : Bx v892 q6 24 #[.bool na0, .slice A0 n0 c0] := (E892.far q6 b870.lt (by simp)).trans b870
        have b899 : Bx v892 q110 t116 #[.bool x118, .slice A119 m120 c121] := (E892.far q110 b871.lt (by simp)).trans b871
        have b900 : Bx v892 q751 t758 #[.bool x760, .slice A761 m762 c763] := (E892.far q751 b872.lt (by simp)).trans b872
        have b901 : Bx v892 q804 t812 #[.bool x814, .slice A815 m816 c817] := (E892.far q804 b873.lt (by simp)).trans b873
        have f902 := f874.mono E892.mono
        have f903 := f875.mono E892.mono
        have f904 := f876.mono E892.mono
        have f907 := f879.mono E892.mono
        have f912 := f884.mono E892.mono
        have e927 : g892 13 = (.bool false) := E892.facts 13 (by decide)
        refine then_normal ?_
        refine wp_cond_false e927 ?_
        refine wp_skip ?_
        refine then_normal ?_
        exact ⟨rfl, rfl, p161, p162, p752, p805, e889, e890, e891, T893, b898, f902, b899, f904, b900, f907, b901, f912, f903, trivial⟩
      · skip
        have t2 : decide ((m : Int) < 4503599627370496) = false := decide_eq_false (by have := hm2 (by have := of_decide_eq_true t1; omega); omega)
        have HB : w.heap.size ≤ v864.heap.size := T865.size
        refine wp_plan_seq [.val (.is (.int .u64 (m : Int))), .val (.is (.bool false)), .val (.is (.bool false)), .val (.is (.int .i64 (e : Int))), .val (.is (.bool false)), .val (.is (.bool false)), .val (.is (.bool false)), .val (.is (.int .i64 (e : Int))), .val (.is (.bool true)), .val (.is (.bool true)), .val (.is (.int .u64 (m : Int))), .val (.is (.bool false)), .val (.is (.bool false)), .val (.is (.bool false))] [] [] w.heap.size (by kernel_rfl) (by kernel_rfl) trivial HB ?_ ?_
        · exact ⟨fun s v h => does_val rfl rfl (x_move) ((h.same 13 rfl).trans e889),
      fun s v h => does_val rfl rfl (x_geq (h.dep 0 rfl) rfl) (congrArg Value.bool gA),
      fun s v h => does_val rfl rfl (x_move) (h.dep 1 rfl),
      fun s v h => does_val rfl (wanted_by (b := false) (want := false) rfl rfl (h.dep 2 rfl)) (x_move) ((h.same 14 rfl).trans e890),
      fun s v h => does_val rfl (wanted_by (b := false) (want := false) rfl rfl (h.dep 2 rfl)) (x_lss (h.dep 3 rfl) rfl) (congrArg Value.bool gB),
      fun s v h => does_val rfl rfl (x_pick (h.dep 2 rfl)) (h.dep 4 rfl),
      fun s v h => does_val rfl rfl (x_move) (h.dep 5 rfl),
      fun s v h => does_val rfl (wanted_by (b := false) (want := false) rfl rfl (h.dep 6 rfl)) (x_move) ((h.same 14 rfl).trans e890),
      fun s v h => does_val rfl (wanted_by (b := false) (want := false) rfl rfl (h.dep 6 rfl)) (x_gtr (h.dep 7 rfl) rfl) (congrArg Value.bool t1),
      fun s v h => does_val rfl (wanted_by (b := false) (want := false) rfl rfl (h.dep 6 rfl)) (x_move) (h.dep 8 rfl),
      fun s v h => does_val rfl (wanted_by (b := true) (want := true) rfl rfl (h.dep 9 rfl)) (x_move) ((h.same 13 rfl).trans e889),
      fun s v h => does_val rfl (wanted_by (b := true) (want := true) rfl rfl (h.dep 9 rfl)) (x_lss (h.dep 10 rfl) rfl) (congrArg Value.bool t2),
      fun s v h => does_val rfl (wanted_by (b := false) (want := false) rfl rfl (h.dep 6 rfl)) (x_pick (h.dep 9 rfl)) (h.dep 11 rfl),
      fun s v h => does_val rfl rfl (x_pick (h.dep 6 rfl)) (h.dep 12 rfl), trivial⟩
        intro g928 ts v928 hts E928
        simp only [fillL, Nat.reduceAdd, List.setIfInBounds_toArray, List.set_cons_zero, List.set_cons_succ] at hts
        subst hts
        have T929 : Below w.heap.size w v928 := T865.trans E928.below
        have l930 : q6 < v864.heap.size := b870.lt
        have l931 : q110 < v864.heap.size := b871.lt
        have l932 : q751 < v864.heap.size := b872.lt
        have l933 : q804 < v864.heap.size := b873.lt
        have b934 : Bx v928 q6 24 #[.bool na0, .slice A0 n0 c0] := (E928.far q6 b870.lt (by simp)).trans b870
        have b935 : Bx v928 q110 t116 #[.bool x118, .slice A119 m120 c121] := (E928.far q110 b871.lt (by simp)).trans b871
        have b936 : Bx v928 q751 t758 #[.bool x760, .slice A761 m762 c763] := (E928.far q751 b872.lt (by simp)).trans b872
        have b937 : Bx v928 q804 t812 #[.bool x814, .slice A815 m816 c817] := (E928.far q804 b873.lt (by simp)).trans b873
        have f938 := f874.mono E928.mono
        have f939 := f875.mono E928.mono
        have f940 := f876.mono E928.mono
        have f943 := f879.mono E928.mono
        have f948 := f884.mono E928.mono
        have e963 : g928 13 = (.bool false) := E928.facts 13 (by decide)
        refine then_normal ?_
        refine wp_cond_false e963 ?_
        refine wp_skip ?_
        refine then_normal ?_
        exact ⟨rfl, rfl, p161, p162, p752, p805, e889, e890, e891, T929, b934, f938, b935, f940, b936, f943, b937, f948, f939, trivial⟩
    rintro y964 v964 ⟨p965, p966, p967, p968, p969, p970, p971, T972, b973, f974, b975, f976, b977, f978, b979, f980, m981, hJ⟩
    have hlit : litv 157 y964 = #[y964 0, y964 1, y964 2, y964 3, y964 4, y964 5, y964 6, y964 7, y964 8, y964 9, y964 10, y964 11, y964 12, y964 13, y964 14, y964 15, y964 16, y964 17, y964 18, y964 19, y964 20, y964 21, y964 22, y964 23, y964 24, y964 25, y964 26, y964 27, y964 28, y964 29, y964 30, y964 31, y964 32, y964 33, y964 34, y964 35, y964 36, y964 37, y964 38, y964 39, y964 40, y964 41, y964 42, y964 43, y964 44, y964 45, y964 46, y964 47, y964 48, y964 49, y964 50, y964 51, y964 52, y964 53, y964 54, y964 55, y964 56, y964 57, y964 58, y964 59, y964 60, y964 61, y964 62, y964 63, y964 64, y964 65, y964 66, y964 67, y964 68, y964 69, y964 70, y964 71, y964 72, y964 73, y964 74, y964 75, y964 76, y964 77, y964 78, y964 79, y964 80, y964 81, y964 82, y964 83, y964 84, y964 85, y964 86, y964 87, y964 88, y964 89, y964 90, y964 91, y964 92, y964 93, y964 94, y964 95, y964 96, y964 97, y964 98, y964 99, y964 100, y964 101, y964 102, y964 103, y964 104, y964 105, y964 106, y964 107, y964 108, y964 109, y964 110, y964 111, y964 112, y964 113, y964 114, y964 115, y964 116, y964 117, y964 118, y964 119, y964 120, y964 121, y964 122, y964 123, y964 124, y964 125, y964 126, y964 127, y964 128, y964 129, y964 130, y964 131, y964 132, y964 133, y964 134, y964 135, y964 136, y964 137, y964 138, y964 139, y964 140, y964 141, y964 142, y964 143, y964 144, y964 145, y964 146, y964 147, y964 148, y964 149, y964 150, y964 151, y964 152, y964 153, y964 154, y964 155, y964 156] := rfl
    rw [hlit]
    clear hlit
    refine wp_seq ?_
    rcases s1 : (decide ((65536 : Int) < (e : Int))) with _ | _
    · skip
      have hel : e ≤ 65536 := by have := of_decide_eq_false s1; omega
      have s2 : decide ((e : Int) < -65536) = false := decide_eq_false (by omega)
      have s3 : decide (0 ≤ (e : Int)) = true := decide_eq_true (by omega)
      have lup := up_len lm hel
      have lnx := up_len lm1 hel
      have HB : w.heap.size ≤ v964.heap.size := T972.size
      refine wp_plan_seq [.val (.is (.int .u64 (m : Int))), .val (.is (.int .i64 (m : Int))), .val (.cz (m : Int)), .val (.is (.int .i64 (e : Int))), .val (.tup2 (.cz ((m : Int) * ((2 ^ e : Nat) : Int))) (.is (.int .i64 0))), .val (.tup2 (.cz ((m : Int) * ((2 ^ e : Nat) : Int))) (.is (.int .i64 0))), .val (.cz ((m : Int) * ((2 ^ e : Nat) : Int))), .val (.is (.int .i64 0)), .new 2 none, .put 16 122, .val (.is (.int .i64 0))] [] [] w.heap.size (by kernel_rfl) (by kernel_rfl) trivial HB ?_ ?_
      · exact ⟨fun s v h => does_val rfl rfl (x_move) ((h.same 13 rfl).trans p969),
      fun s v h => does_val rfl rfl (x_conv_u_i (h.dep 0 rfl) (IntWalk.i64_in _ (by omega))) rfl,
      fun s v h => does_call rfl rfl (x_call1 Try.call42) (of_k (h.dep 1 rfl) (by omega) (by omega)),
      fun s v h => does_val rfl rfl (x_move) ((h.same 14 rfl).trans p970),
      fun s v h => does_call rfl rfl (x_call2 Try.call37) (two_arg (h.dep 3 rfl) (zshift_c ((h.dep 2 rfl).az (N := 2) lm) (by omega) hel s1 s2 s3)),
      fun s v h => does_val rfl rfl (x_move) (h.dep 4 rfl),
      fun s v h => by obtain ⟨r0, r1, e, f0, f1⟩ := tup2_at (h.dep 5 rfl); exact does_val rfl rfl (x_ext e rfl) f0,
      fun s v h => by obtain ⟨r0, r1, e, f0, f1⟩ := tup2_at (h.dep 5 rfl); exact does_val rfl rfl (x_ext e rfl) f1,
      fun s v h => does_new rfl rfl x_alloc_z (okz _ _ _ _) rfl (.inl rfl),
      fun s v h => by obtain ⟨q, e1, e2, e3⟩ := new_at (h.dep 8 rfl); exact does_put_z rfl rfl e1 (h.dep 6 rfl).shape e3 (Nat.le_trans HB e2),
      fun s v h => does_val rfl rfl (x_assign) (h.dep 7 rfl), trivial⟩
      intro g982 ts v982 hts E982
      simp only [fillL, Nat.reduceAdd, List.setIfInBounds_toArray, List.set_cons_zero, List.set_cons_succ] at hts
      subst hts
      have T983 : Below w.heap.size w v982 := T972.trans E982.below
      have l984 : q6 < v964.heap.size := b973.lt
      have l985 : q110 < v964.heap.size := b975.lt
      have l986 : q751 < v964.heap.size := b977.lt
      have l987 : q804 < v964.heap.size := b979.lt
      have b988 : Bx v982 q6 24 #[.bool na0, .slice A0 n0 c0] := (E982.far q6 b973.lt (by simp)).trans b973
      have b989 : Bx v982 q110 t116 #[.bool x118, .slice A119 m120 c121] := (E982.far q110 b975.lt (by simp)).trans b975
      have b990 : Bx v982 q751 t758 #[.bool x760, .slice A761 m762 c763] := (E982.far q751 b977.lt (by simp)).trans b977
      have b991 : Bx v982 q804 t812 #[.bool x814, .slice A815 m816 c817] := (E982.far q804 b979.lt (by simp)).trans b979
      have f992 := f974.mono E982.mono
      have f1001 : Cz v982 (g982 6) ((m : Int) * ((2 ^ e : Nat) : Int)) := E982.facts 6 (by decide)
      have e1003 : g982 10 = (.int .i64 0) := E982.facts 10 (by decide)
      obtain ⟨q1004, p1005, l1006, o1007⟩ : ∃ q, g982 8 = .pointer (some ⟨q, 0, none⟩) ∧ v964.heap.size ≤ q ∧ OkB v982 q 2 := E982.facts 8 (by decide)
      have h1008 : w.heap.size ≤ q1004 := Nat.le_trans HB l1006
      obtain ⟨t1013, x1015, A1016, m1017, c1018, e1019, b1014⟩ := put_info (E982.facts 9 (by decide)) p1005 f1001.shape
      have f1020 : Cz v982 (.agg #[.bool x1015, .slice A1016 m1017 c1018]) ((m : Int) * ((2 ^ e : Nat) : Int)) := f1001.at e1019.symm
      refine then_normal ?_
      refine wp_seq ?_
      have HB : w.heap.size ≤ v982.heap.size := T983.size
      refine wp_plan_seq [.val (.is (.int .u64 (m : Int))), .val (.is (.int .i64 (m : Int))), .val (.is (.int .i64 ((m : Int) + 1))), .val (.cz ((m : Int) + 1)), .val (.is (.int .i64 (e : Int))), .val (.tup2 (.cz (((m : Int) + 1) * ((2 ^ e : Nat) : Int))) (.is (.int .i64 0))), .val (.tup2 (.cz (((m : Int) + 1) * ((2 ^ e : Nat) : Int))) (.is (.int .i64 0))), .val (.cz (((m : Int) + 1) * ((2 ^ e : Nat) : Int))), .val (.is (.int .i64 0)), .new 2 none, .put 18 131, .val (.is (.int .i64 0))] [] [] w.heap.size (by kernel_rfl) (by kernel_rfl) trivial HB ?_ ?_
      · exact ⟨fun s v h => does_val rfl rfl (x_move) ((h.same 13 rfl).trans p969),
      fun s v h => does_val rfl rfl (x_conv_u_i (h.dep 0 rfl) (IntWalk.i64_in _ (by omega))) rfl,
      fun s v h => does_val rfl rfl (x_add_i64 (h.dep 1 rfl) rfl (by rw [IntKind.wrap_i64]; omega)) rfl,
      fun s v h => does_call rfl rfl (x_call1 Try.call42) (of_k (h.dep 2 rfl) (by omega) (by omega)),
      fun s v h => does_val rfl rfl (x_move) ((h.same 14 rfl).trans p970),
      fun s v h => does_call rfl rfl (x_call2 Try.call37) (two_arg (h.dep 4 rfl) (zshift_c ((h.dep 3 rfl).az (N := 2) lm1) (by omega) hel s1 s2 s3)),
      fun s v h => does_val rfl rfl (x_move) (h.dep 5 rfl),
      fun s v h => by obtain ⟨r0, r1, e, f0, f1⟩ := tup2_at (h.dep 6 rfl); exact does_val rfl rfl (x_ext e rfl) f0,
      fun s v h => by obtain ⟨r0, r1, e, f0, f1⟩ := tup2_at (h.dep 6 rfl); exact does_val rfl rfl (x_ext e rfl) f1,
      fun s v h => does_new rfl rfl x_alloc_z (okz _ _ _ _) rfl (.inl rfl),
      fun s v h => by obtain ⟨q, e1, e2, e3⟩ := new_at (h.dep 9 rfl); exact does_put_z rfl rfl e1 (h.dep 7 rfl).shape e3 (Nat.le_trans HB e2),
      fun s v h => does_val rfl rfl (x_assign) (h.dep 8 rfl), trivial⟩
      intro g1021 ts v1021 hts E1021
      simp only [fillL, Nat.reduceAdd, List.setIfInBounds_toArray, List.set_cons_zero, List.set_cons_succ] at hts
      subst hts
      have T1022 : Below w.heap.size w v1021 := T983.trans E1021.below
      have l1023 : q6 < v982.heap.size := b988.lt
      have l1024 : q110 < v982.heap.size := b989.lt
      have l1025 : q751 < v982.heap.size := b990.lt
      have l1026 : q804 < v982.heap.size := b991.lt
      have l1027 : q1004 < v982.heap.size := b1014.lt
      have b1028 : Bx v1021 q6 24 #[.bool na0, .slice A0 n0 c0] := (E1021.far q6 b988.lt (by simp)).trans b988
      have b1029 : Bx v1021 q110 t116 #[.bool x118, .slice A119 m120 c121] := (E1021.far q110 b989.lt (by simp)).trans b989
      have b1030 : Bx v1021 q751 t758 #[.bool x760, .slice A761 m762 c763] := (E1021.far q751 b990.lt (by simp)).trans b990
      have b1031 : Bx v1021 q804 t812 #[.bool x814, .slice A815 m816 c817] := (E1021.far q804 b991.lt (by simp)).trans b991
      have b1032 : Bx v1021 q1004 t1013 #[.bool x1015, .slice A1016 m1017 c1018] := (E1021.far q1004 b1014.lt (by simp)).trans b1014
      have f1033 := f992.mono E1021.mono
      have f1040 := f1020.mono E1021.mono
      have f1046 : Cz v1021 (g1021 7) (((m : Int) + 1) * ((2 ^ e : Nat) : Int)) := E1021.facts 7 (by decide)
      obtain ⟨q1049, p1050, l1051, o1052⟩ : ∃ q, g1021 9 = .pointer (some ⟨q, 0, none⟩) ∧ v982.heap.size ≤ q ∧ OkB v1021 q 2 := E1021.facts 9 (by decide)
      have h1053 : w.heap.size ≤ q1049 := Nat.le_trans HB l1051
      obtain ⟨t1059, x1061, A1062, m1063, c1064, e1065, b1060⟩ := put_info (E1021.facts 10 (by decide)) p1050 f1046.shape
      have f1066 : Cz v1021 (.agg #[.bool x1061, .slice A1062 m1063 c1064]) (((m : Int) + 1) * ((2 ^ e : Nat) : Int)) := f1046.at e1065.symm
      refine then_normal ?_
      refine wp_seq ?_
      refine wp_seq ?_
      have HB : w.heap.size ≤ v1021.heap.size := T1022.size
      refine wp_plan_seq [.val (.is (.int .i64 0)), .val (.is (.bool false))] [] [] w.heap.size (by kernel_rfl) (by kernel_rfl) trivial HB ?_ ?_
      · exact ⟨fun s v h => does_val rfl rfl (x_move) ((h.same 17 rfl).trans e1003),
      fun s v h => does_val rfl rfl (x_neq_err (h.dep 0 rfl) rfl) rfl, trivial⟩
      intro g1067 ts v1067 hts E1067
      simp only [fillL, Nat.reduceAdd, List.setIfInBounds_toArray, List.set_cons_zero, List.set_cons_succ] at hts
      subst hts
      have T1068 : Below w.heap.size w v1067 := T1022.trans E1067.below
      have l1069 : q6 < v1021.heap.size := b1028.lt
      have l1070 : q110 < v1021.heap.size := b1029.lt
      have l1071 : q751 < v1021.heap.size := b1030.lt
      have l1072 : q804 < v1021.heap.size := b1031.lt
      have l1073 : q1004 < v1021.heap.size := b1032.lt
      have l1074 : q1049 < v1021.heap.size := b1060.lt
      have b1075 : Bx v1067 q6 24 #[.bool na0, .slice A0 n0 c0] := (E1067.far q6 b1028.lt (by simp)).trans b1028
      have b1076 : Bx v1067 q110 t116 #[.bool x118, .slice A119 m120 c121] := (E1067.far q110 b1029.lt (by simp)).trans b1029
      have b1077 : Bx v1067 q751 t758 #[.bool x760, .slice A761 m762 c763] := (E1067.far q751 b1030.lt (by simp)).trans b1030
      have b1078 : Bx v1067 q804 t812 #[.bool x814, .slice A815 m816 c817] := (E1067.far q804 b1031.lt (by simp)).trans b1031
      have b1079 : Bx v1067 q1004 t1013 #[.bool x1015, .slice A1016 m1017 c1018] := (E1067.far q1004 b1032.lt (by simp)).trans b1032
      have b1080 : Bx v1067 q1049 t1059 #[.bool x1061, .slice A1062 m1063 c1064] := (E1067.far q1049 b1060.lt (by simp)).trans b1060
      have f1081 := f1033.mono E1067.mono
      have f1088 := f1040.mono E1067.mono
      have f1091 := f1066.mono E1067.mono
      have e1093 : g1067 1 = (.bool false) := E1067.facts 1 (by decide)
      refine then_normal ?_
      refine wp_cond_false e1093 ?_
      refine wp_skip ?_
      refine then_normal ?_
      refine wp_seq ?_
      have HB : w.heap.size ≤ v1067.heap.size := T1068.size
      refine wp_plan_any [.val (.cz ((m : Int) * ((2 ^ e : Nat) : Int))), .val (.az 1048576 z), .val (.cz (z.natAbs : Int)), .val (.is (.int .i64 (((m : Int) * ((2 ^ e : Nat) : Int)) - (z.natAbs : Int)).sign)), .val (.is (.bool true)), .val (.is (.bool true)), .val (.cz (((m : Int) + 1) * ((2 ^ e : Nat) : Int))), .val (.az 1048576 z), .val (.cz (z.natAbs : Int)), .val (.is (.int .i64 ((((m : Int) + 1) * ((2 ^ e : Nat) : Int)) - (z.natAbs : Int)).sign)), .val (.is (.bool true)), .val (.is (.bool true)), .val (.is (.bool true)), .val (.is (.bool b)), .val (.cz ((m : Int) * ((2 ^ e : Nat) : Int))), .val (.az 1048576 z), .val (.cz (z.natAbs : Int)), .val (.is (.bool (decide (((m : Int) * ((2 ^ e : Nat) : Int)) = (z.natAbs : Int))))), .val (.is (.bool true)), .val (.is (.bool true)), .val (.is (.bool true))] [] [] w.heap.size (by kernel_rfl) (by kernel_rfl) (by kernel_rfl) trivial HB ?_ ?_
      · exact ⟨fun s v h => does_val rfl rfl (x_load_z ((h.same 16 rfl).trans p1005) ((h.far q1004 b1079.lt (by simp)).trans b1079)) (f1088.mono ((Mono.drew _).trans h.mono)),
      fun s v h => does_val rfl rfl (x_load_z ((h.same 2 rfl).trans p965) ((h.far q6 b1075.lt (by simp)).trans b1075)) (f1081.mono ((Mono.drew _).trans h.mono)),
      fun s v h => does_call rfl rfl (x_call1 Try.call41) (abs_k (h.dep 1 rfl)),
      fun s v h => does_call rfl rfl (x_call2 Try.call40) (zcmp_k ((h.dep 0 rfl).az (N := 100000) lup) ((h.dep 2 rfl).az (N := 1048576) (len_abs la0))),
      fun s v h => does_val rfl rfl (x_leq (h.dep 3 rfl) rfl) (congrArg Value.bool p1),
      fun s v h => does_val rfl rfl (x_move) (h.dep 4 rfl),
      fun s v h => does_val rfl (wanted_by (b := true) (want := true) rfl rfl (h.dep 5 rfl)) (x_load_z ((h.same 18 rfl).trans p1050) ((h.far q1049 b1080.lt (by simp)).trans b1080)) (f1091.mono ((Mono.drew _).trans h.mono)),
      fun s v h => does_val rfl (wanted_by (b := true) (want := true) rfl rfl (h.dep 5 rfl)) (x_load_z ((h.same 2 rfl).trans p965) ((h.far q6 b1075.lt (by simp)).trans b1075)) (f1081.mono ((Mono.drew _).trans h.mono)),
      fun s v h => does_call rfl (wanted_by (b := true) (want := true) rfl rfl (h.dep 5 rfl)) (x_call1 Try.call41) (abs_k (h.dep 7 rfl)),
      fun s v h => does_call rfl (wanted_by (b := true) (want := true) rfl rfl (h.dep 5 rfl)) (x_call2 Try.call40) (zcmp_k ((h.dep 6 rfl).az (N := 100000) lnx) ((h.dep 8 rfl).az (N := 1048576) (len_abs la0))),
      fun s v h => does_val rfl (wanted_by (b := true) (want := true) rfl rfl (h.dep 5 rfl)) (x_gtr (h.dep 9 rfl) rfl) (congrArg Value.bool p2),
      fun s v h => does_val rfl rfl (x_pick (h.dep 5 rfl)) (h.dep 10 rfl),
      fun s v h => does_val rfl rfl (x_move) (h.dep 11 rfl),
      fun s v h => does_val rfl (wanted_by (b := true) (want := true) rfl rfl (h.dep 12 rfl)) (x_move) ((h.same 15 rfl).trans p971),
      fun s v h => does_val rfl (wanted_by (b := true) (want := true) rfl rfl (h.dep 12 rfl)) (x_load_z ((h.same 16 rfl).trans p1005) ((h.far q1004 b1079.lt (by simp)).trans b1079)) (f1088.mono ((Mono.drew _).trans h.mono)),
      fun s v h => does_val rfl (wanted_by (b := true) (want := true) rfl rfl (h.dep 12 rfl)) (x_load_z ((h.same 2 rfl).trans p965) ((h.far q6 b1075.lt (by simp)).trans b1075)) (f1081.mono ((Mono.drew _).trans h.mono)),
      fun s v h => does_call rfl (wanted_by (b := true) (want := true) rfl rfl (h.dep 12 rfl)) (x_call1 Try.call41) (abs_k (h.dep 15 rfl)),
      fun s v h => does_call rfl (wanted_by (b := true) (want := true) rfl rfl (h.dep 12 rfl)) (x_call2 Try.call12) (eq_any (h.dep 14 rfl) (h.dep 16 rfl)),
      fun s v h => does_val rfl (wanted_by (b := true) (want := true) rfl rfl (h.dep 12 rfl)) (x_eql_bool (h.dep 13 rfl) (h.dep 17 rfl)) (congrArg Value.bool p3),
      fun s v h => does_val rfl rfl (x_pick (h.dep 12 rfl)) (h.dep 18 rfl),
      fun s v h => does_val rfl rfl (x_assign) (h.dep 19 rfl), trivial⟩
      intro g1094 ts v1094 hts E1094
      simp only [fillL, Nat.reduceAdd, List.setIfInBounds_toArray, List.set_cons_zero, List.set_cons_succ] at hts
      subst hts
      have T1095 : Below w.heap.size w v1094 := (below_toDrew T1068).trans E1094.below
      have l1096 : q6 < v1067.heap.size := b1075.lt
      have l1097 : q110 < v1067.heap.size := b1076.lt
      have l1098 : q751 < v1067.heap.size := b1077.lt
      have l1099 : q804 < v1067.heap.size := b1078.lt
      have l1100 : q1004 < v1067.heap.size := b1079.lt
      have l1101 : q1049 < v1067.heap.size := b1080.lt
      have e1139 : g1094 20 = (.bool true) := E1094.facts 20 (by decide)
      refine then_normal ?_
      refine wp_ret ?_
      exact bodyPost_ret (results_tmp (t := 4) rfl _ _ _) rfl ⟨_, rfl, e1139, T1095⟩
    · skip
      have HB : w.heap.size ≤ v964.heap.size := T972.size
      refine wp_plan_seq [.val (.is (.int .u64 (m : Int))), .val (.is (.int .i64 (m : Int))), .val (.cz (m : Int)), .val (.is (.int .i64 (e : Int))), .val (.tup2 (.cz 0) (.is (.int .i64 2))), .val (.tup2 (.cz 0) (.is (.int .i64 2))), .val (.cz 0), .val (.is (.int .i64 2)), .new 2 none, .put 16 122, .val (.is (.int .i64 2))] [] [] w.heap.size (by kernel_rfl) (by kernel_rfl) trivial HB ?_ ?_
      · exact ⟨fun s v h => does_val rfl rfl (x_move) ((h.same 13 rfl).trans p969),
      fun s v h => does_val rfl rfl (x_conv_u_i (h.dep 0 rfl) (IntWalk.i64_in _ (by omega))) rfl,
      fun s v h => does_call rfl rfl (x_call1 Try.call42) (of_k (h.dep 1 rfl) (by omega) (by omega)),
      fun s v h => does_val rfl rfl (x_move) ((h.same 14 rfl).trans p970),
      fun s v h => does_call rfl rfl (x_call2 Try.call37) (two_arg (h.dep 3 rfl) (zshift_a ((h.dep 2 rfl).az (N := 2) lm) (by omega) s1)),
      fun s v h => does_val rfl rfl (x_move) (h.dep 4 rfl),
      fun s v h => by obtain ⟨r0, r1, e, f0, f1⟩ := tup2_at (h.dep 5 rfl); exact does_val rfl rfl (x_ext e rfl) f0,
      fun s v h => by obtain ⟨r0, r1, e, f0, f1⟩ := tup2_at (h.dep 5 rfl); exact does_val rfl rfl (x_ext e rfl) f1,
      fun s v h => does_new rfl rfl x_alloc_z (okz _ _ _ _) rfl (.inl rfl),
      fun s v h => by obtain ⟨q, e1, e2, e3⟩ := new_at (h.dep 8 rfl); exact does_put_z rfl rfl e1 (h.dep 6 rfl).shape e3 (Nat.le_trans HB e2),
      fun s v h => does_val rfl rfl (x_assign) (h.dep 7 rfl), trivial⟩
      intro g1140 ts v1140 hts E1140
      simp only [fillL, Nat.reduceAdd, List.setIfInBounds_toArray, List.set_cons_zero, List.set_cons_succ] at hts
      subst hts
      have T1141 : Below w.heap.size w v1140 := T972.trans E1140.below
      have l1142 : q6 < v964.heap.size := b973.lt
      have l1143 : q110 < v964.heap.size := b975.lt
      have l1144 : q751 < v964.heap.size := b977.lt
      have l1145 : q804 < v964.heap.size := b979.lt
      have b1146 : Bx v1140 q6 24 #[.bool na0, .slice A0 n0 c0] := (E1140.far q6 b973.lt (by simp)).trans b973
      have b1147 : Bx v1140 q110 t116 #[.bool x118, .slice A119 m120 c121] := (E1140.far q110 b975.lt (by simp)).trans b975
      have b1148 : Bx v1140 q751 t758 #[.bool x760, .slice A761 m762 c763] := (E1140.far q751 b977.lt (by simp)).trans b977
      have b1149 : Bx v1140 q804 t812 #[.bool x814, .slice A815 m816 c817] := (E1140.far q804 b979.lt (by simp)).trans b979
      have f1159 : Cz v1140 (g1140 6) 0 := E1140.facts 6 (by decide)
      have e1161 : g1140 10 = (.int .i64 2) := E1140.facts 10 (by decide)
      obtain ⟨q1162, p1163, l1164, o1165⟩ : ∃ q, g1140 8 = .pointer (some ⟨q, 0, none⟩) ∧ v964.heap.size ≤ q ∧ OkB v1140 q 2 := E1140.facts 8 (by decide)
      have h1166 : w.heap.size ≤ q1162 := Nat.le_trans HB l1164
      obtain ⟨t1171, x1173, A1174, m1175, c1176, e1177, b1172⟩ := put_info (E1140.facts 9 (by decide)) p1163 f1159.shape
      refine then_normal ?_
      refine wp_seq ?_
      have HB : w.heap.size ≤ v1140.heap.size := T1141.size
      refine wp_plan_seq [.val (.is (.int .u64 (m : Int))), .val (.is (.int .i64 (m : Int))), .val (.is (.int .i64 ((m : Int) + 1))), .val (.cz ((m : Int) + 1)), .val (.is (.int .i64 (e : Int))), .val (.tup2 (.cz 0) (.is (.int .i64 2))), .val (.tup2 (.cz 0) (.is (.int .i64 2))), .val (.cz 0), .val (.is (.int .i64 2)), .new 2 none, .put 18 131, .val (.is (.int .i64 2))] [] [] w.heap.size (by kernel_rfl) (by kernel_rfl) trivial HB ?_ ?_
      · exact ⟨fun s v h => does_val rfl rfl (x_move) ((h.same 13 rfl).trans p969),
      fun s v h => does_val rfl rfl (x_conv_u_i (h.dep 0 rfl) (IntWalk.i64_in _ (by omega))) rfl,
      fun s v h => does_val rfl rfl (x_add_i64 (h.dep 1 rfl) rfl (by rw [IntKind.wrap_i64]; omega)) rfl,
      fun s v h => does_call rfl rfl (x_call1 Try.call42) (of_k (h.dep 2 rfl) (by omega) (by omega)),
      fun s v h => does_val rfl rfl (x_move) ((h.same 14 rfl).trans p970),
      fun s v h => does_call rfl rfl (x_call2 Try.call37) (two_arg (h.dep 4 rfl) (zshift_a ((h.dep 3 rfl).az (N := 2) lm1) (by omega) s1)),
      fun s v h => does_val rfl rfl (x_move) (h.dep 5 rfl),
      fun s v h => by obtain ⟨r0, r1, e, f0, f1⟩ := tup2_at (h.dep 6 rfl); exact does_val rfl rfl (x_ext e rfl) f0,
      fun s v h => by obtain ⟨r0, r1, e, f0, f1⟩ := tup2_at (h.dep 6 rfl); exact does_val rfl rfl (x_ext e rfl) f1,
      fun s v h => does_new rfl rfl x_alloc_z (okz _ _ _ _) rfl (.inl rfl),
      fun s v h => by obtain ⟨q, e1, e2, e3⟩ := new_at (h.dep 9 rfl); exact does_put_z rfl rfl e1 (h.dep 7 rfl).shape e3 (Nat.le_trans HB e2),
      fun s v h => does_val rfl rfl (x_assign) (h.dep 8 rfl), trivial⟩
      intro g1179 ts v1179 hts E1179
      simp only [fillL, Nat.reduceAdd, List.setIfInBounds_toArray, List.set_cons_zero, List.set_cons_succ] at hts
      subst hts
      have T1180 : Below w.heap.size w v1179 := T1141.trans E1179.below
      have l1181 : q6 < v1140.heap.size := b1146.lt
      have l1182 : q110 < v1140.heap.size := b1147.lt
      have l1183 : q751 < v1140.heap.size := b1148.lt
      have l1184 : q804 < v1140.heap.size := b1149.lt
      have l1185 : q1162 < v1140.heap.size := b1172.lt
      have b1186 : Bx v1179 q6 24 #[.bool na0, .slice A0 n0 c0] := (E1179.far q6 b1146.lt (by simp)).trans b1146
      have b1187 : Bx v1179 q110 t116 #[.bool x118, .slice A119 m120 c121] := (E1179.far q110 b1147.lt (by simp)).trans b1147
      have b1188 : Bx v1179 q751 t758 #[.bool x760, .slice A761 m762 c763] := (E1179.far q751 b1148.lt (by simp)).trans b1148
      have b1189 : Bx v1179 q804 t812 #[.bool x814, .slice A815 m816 c817] := (E1179.far q804 b1149.lt (by simp)).trans b1149
      have b1190 : Bx v1179 q1162 t1171 #[.bool x1173, .slice A1174 m1175 c1176] := (E1179.far q1162 b1172.lt (by simp)).trans b1172
      have f1204 : Cz v1179 (g1179 7) 0 := E1179.facts 7 (by decide)
      obtain ⟨q1207, p1208, l1209, o1210⟩ : ∃ q, g1179 9 = .pointer (some ⟨q, 0, none⟩) ∧ v1140.heap.size ≤ q ∧ OkB v1179 q 2 := E1179.facts 9 (by decide)
      have h1211 : w.heap.size ≤ q1207 := Nat.le_trans HB l1209
      obtain ⟨t1217, x1219, A1220, m1221, c1222, e1223, b1218⟩ := put_info (E1179.facts 10 (by decide)) p1208 f1204.shape
      refine then_normal ?_
      refine wp_seq ?_
      refine wp_seq ?_
      have HB : w.heap.size ≤ v1179.heap.size := T1180.size
      refine wp_plan_seq [.val (.is (.int .i64 2)), .val (.is (.bool true))] [] [] w.heap.size (by kernel_rfl) (by kernel_rfl) trivial HB ?_ ?_
      · exact ⟨fun s v h => does_val rfl rfl (x_move) ((h.same 17 rfl).trans e1161),
      fun s v h => does_val rfl rfl (x_neq_err (h.dep 0 rfl) rfl) rfl, trivial⟩
      intro g1225 ts v1225 hts E1225
      simp only [fillL, Nat.reduceAdd, List.setIfInBounds_toArray, List.set_cons_zero, List.set_cons_succ] at hts
      subst hts
      have T1226 : Below w.heap.size w v1225 := T1180.trans E1225.below
      have l1227 : q6 < v1179.heap.size := b1186.lt
      have l1228 : q110 < v1179.heap.size := b1187.lt
      have l1229 : q751 < v1179.heap.size := b1188.lt
      have l1230 : q804 < v1179.heap.size := b1189.lt
      have l1231 : q1162 < v1179.heap.size := b1190.lt
      have l1232 : q1207 < v1179.heap.size := b1218.lt
      have b1233 : Bx v1225 q6 24 #[.bool na0, .slice A0 n0 c0] := (E1225.far q6 b1186.lt (by simp)).trans b1186
      have b1234 : Bx v1225 q110 t116 #[.bool x118, .slice A119 m120 c121] := (E1225.far q110 b1187.lt (by simp)).trans b1187
      have b1235 : Bx v1225 q751 t758 #[.bool x760, .slice A761 m762 c763] := (E1225.far q751 b1188.lt (by simp)).trans b1188
      have b1236 : Bx v1225 q804 t812 #[.bool x814, .slice A815 m816 c817] := (E1225.far q804 b1189.lt (by simp)).trans b1189
      have b1237 : Bx v1225 q1162 t1171 #[.bool x1173, .slice A1174 m1175 c1176] := (E1225.far q1162 b1190.lt (by simp)).trans b1190
      have b1238 : Bx v1225 q1207 t1217 #[.bool x1219, .slice A1220 m1221 c1222] := (E1225.far q1207 b1218.lt (by simp)).trans b1218
      have e1251 : g1225 1 = (.bool true) := E1225.facts 1 (by decide)
      refine then_normal ?_
      refine wp_cond_true e1251 ?_
      refine wp_seq ?_
      have HB : w.heap.size ≤ v1225.heap.size := T1226.size
      refine wp_plan_seq [.val (.is (.int .i64 (e : Int))), .val (.is (.bool true)), .val (.is (.bool true))] [] [] w.heap.size (by kernel_rfl) (by kernel_rfl) trivial HB ?_ ?_
      · exact ⟨fun s v h => does_val rfl rfl (x_move) ((h.same 14 rfl).trans p970),
      fun s v h => does_val rfl rfl (x_gtr (h.dep 0 rfl) rfl) (congrArg Value.bool s1),
      fun s v h => does_val rfl rfl (x_assign) (h.dep 1 rfl), trivial⟩
      intro g1252 ts v1252 hts E1252
      simp only [fillL, Nat.reduceAdd, List.setIfInBounds_toArray, List.set_cons_zero, List.set_cons_succ] at hts
      subst hts
      have T1253 : Below w.heap.size w v1252 := T1226.trans E1252.below
      have l1254 : q6 < v1225.heap.size := b1233.lt
      have l1255 : q110 < v1225.heap.size := b1234.lt
      have l1256 : q751 < v1225.heap.size := b1235.lt
      have l1257 : q804 < v1225.heap.size := b1236.lt
      have l1258 : q1162 < v1225.heap.size := b1237.lt
      have l1259 : q1207 < v1225.heap.size := b1238.lt
      have e1279 : g1252 2 = (.bool true) := E1252.facts 2 (by decide)
      refine then_normal ?_
      refine wp_ret ?_
      exact bodyPost_ret (results_tmp (t := 4) rfl _ _ _) rfl ⟨_, rfl, e1279, T1253⟩

theorem zintBack_law (w : World) (x : Value) (z : Int) (s : ByteArray) (h0 : Az 1048576 w x z) (_hs : s.size ≤ 9223372036854775807) :
    Calls Try.prog 10 #[x, .string s] w fun e w' => e = .returned (.bool true) ∧ Below w.heap.size w w' := by
  obtain ⟨e, he⟩ : ∃ e : Nat, max 0 ((blen z.natAbs : Int) - 53) = (e : Int) := ⟨(max 0 ((blen z.natAbs : Int) - 53)).toNat, by omega⟩
  obtain ⟨m1, m2⟩ := top_parts he
  obtain ⟨zs, ats, es, c2, hc⟩ := zread_two s
  have hs : es = 0 → ((ztxt zs).toList == s.toList) = true ∧ (digs zs.natAbs).length ≤ 70000 := fun h => by
    rcases hc with ⟨_, _, h1, h2⟩ | ⟨h1, _⟩
    · rw [← h1]
      refine ⟨by simp, ?_⟩
      have := ztxt_digs zs
      rw [← h1] at this
      omega
    · omega
  have c1 : decide ((blen z.natAbs : Int) < 10000) = true → ∀ (v : World) (y : Value), y = .string (ztxt z) → Calls Try.prog 51 #[y] v (Ret (.tup3 (.cz z) (.is (.int .i64 0)) (.is (.int .i64 0))) v) := fun h => by
    have hb := of_decide_eq_true h
    have hsz := ztxt_small (z := z) (k := blen z.natAbs) (Nat.le_refl _)
    obtain ⟨z2, a2, e2, c, hd⟩ := zread_two (ztxt z)
    rcases hd with ⟨rfl, rfl, h1, _⟩ | ⟨_, h1⟩
    · have hz := ztxt_inj h1
      subst hz
      exact c
    · exact absurd rfl (h1 (by omega) z)
  have hp : 0 < 2 ^ e := Nat.pow_pos (by omega)
  obtain ⟨m, hm⟩ : ∃ m, m = z.natAbs / 2 ^ e := ⟨_, rfl⟩
  rw [← hm] at m1 m2
  have hdm := Nat.div_add_mod z.natAbs (2 ^ e)
  have hml := Nat.mod_lt z.natAbs hp
  rw [← hm, Nat.mul_comm] at hdm
  have q1 : (m : Int) * ((2 ^ e : Nat) : Int) = ((m * 2 ^ e : Nat) : Int) := (Int.natCast_mul ..).symm
  have q2 : ((m : Int) + 1) * ((2 ^ e : Nat) : Int) = ((m * 2 ^ e : Nat) : Int) + ((2 ^ e : Nat) : Int) := by rw [Int.add_mul, q1, Int.one_mul]
  have p1 : decide (((m : Int) * ((2 ^ e : Nat) : Int) - (z.natAbs : Int)).sign ≤ 0) = true := (sg_nonpos' (by rw [q1]; omega)).1
  have p2 : decide (0 < ((((m : Int) + 1) * ((2 ^ e : Nat) : Int)) - (z.natAbs : Int)).sign) = true := (sg_pos' (by rw [q2]; omega)).2
  have hdl : (digs (z.natAbs % 2 ^ e)).length = 0 ↔ z.natAbs % 2 ^ e = 0 := ⟨fun h => (digs_nil_iff _).1 (List.eq_nil_of_length_eq_zero h), fun h => by rw [h, digs_zero]; rfl⟩
  have p3 : ((((digs (z.natAbs % 2 ^ e)).length : Int) == 0) == decide ((m : Int) * ((2 ^ e : Nat) : Int) = (z.natAbs : Int))) = true := by
    rw [q1]
    by_cases h : z.natAbs % 2 ^ e = 0
    · rw [beq_iff_eq.2 (show ((digs (z.natAbs % 2 ^ e)).length : Int) = 0 by have := hdl.2 h; omega), decide_eq_true (by omega)]
      rfl
    · rw [beq_eq_false_iff_ne.2 (show ((digs (z.natAbs % 2 ^ e)).length : Int) ≠ 0 from fun h2 => h (hdl.1 (by omega))), decide_eq_false (by omega)]
      rfl
  refine (zintBack_walk h0 c1 c2 hs he hm.symm m1 m2 (digs_len_le (by omega)) (digs_len_le (by omega)) rfl p1 p2 p3).mono fun e w' h => ?_
  obtain ⟨r, e, hr, hB⟩ := h
  have hr : r = .bool true := hr
  exact ⟨by rw [e, hr], hB⟩
end Go.Proofs.Ytkidgeeedigkhaa
