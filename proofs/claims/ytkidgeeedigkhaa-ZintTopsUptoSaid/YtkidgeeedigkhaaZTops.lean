/- The law ZintTops. -/
import Derived.Test.YtkidgeeedigkhaaYTop
import Derived.Test.YtkidgeeedigkhaaA6
namespace Go.Proofs.Ytkidgeeedigkhaa
open Go.RowKit

set_option maxRecDepth 8000 in
theorem zt_aa {w : World} {x : Value} {z : Int} (h0 : Az 1048576 w x z) (ds : decide (z.sign < 0) = false) {e : Nat} (he : max 0 ((blen z.natAbs : Int) - 53) = (e : Int)) (he2 : (blen z.natAbs : Int) - 53 = (e : Int)) (dt : decide (53 < (blen z.natAbs : Int)) = true) (hq : Hid (z.natAbs / 2 ^ e < 9007199254740992)) (b : Bool) (hb : (((digs (z.natAbs % 2 ^ e)).length : Int) == 0) = b) (hb2 : ((((z.natAbs % 2 ^ e : Nat) : Int)).sign == 0) = b)  : Calls Try.prog 4 #[x] w (Ret (.is (.bool true)) w) := by
  have la0 := h0.len
  obtain ⟨na0, A0, n0, c0, M0, rfl, hm0, hz0⟩ := h0.parts
  have T0 : Below w.heap.size w w := Below.refl _ _
  go_enter Try.func4, Try.ntmps4
  refine wp_seq ?_
  have HB : w.heap.size ≤ w.heap.size := T0.size
  refine wp_plan_seq [.new 2 (some (24, #[.bool na0, .slice A0 n0 c0])), .val (.is (.bool false))] [] [] w.heap.size (by kernel_rfl) (by kernel_rfl) trivial HB ?_ ?_
  · exact ⟨fun s v h => does_new rfl rfl (x_box_z (h.same 0 rfl)) (okz _ _ _ _) rfl (.inr rfl),
      fun s v h => does_val rfl rfl (x_assign) rfl, trivial⟩
  intro g1 ts v1 hts E1
  simp only [fillL, Nat.reduceAdd, List.setIfInBounds_toArray, List.set_cons_zero, List.set_cons_succ] at hts
  subst hts
  have T2 : Below w.heap.size w v1 := T0.trans E1.below
  have f3 := h0.mono E1.mono
  have f4 := hm0.mono E1.mono
  have e5 : g1 1 = (.bool false) := E1.facts 1 (by decide)
  obtain ⟨q6, p7, l8, o9, b10⟩ : ∃ q, g1 0 = .pointer (some ⟨q, 0, none⟩) ∧ w.heap.size ≤ q ∧ OkB v1 q 2 ∧ Bx v1 q 24 #[.bool na0, .slice A0 n0 c0] := E1.facts 0 (by decide)
  have h11 : w.heap.size ≤ q6 := Nat.le_trans HB l8
  refine then_normal ?_
  refine wp_seq ?_
  have HB : w.heap.size ≤ v1.heap.size := T2.size
  refine wp_plan_seq [.val (.az 1048576 z), .val (.az 1048576 z), .val (.tup2 (.cz (rootN z.natAbs : Int)) (.is (.int .i64 0))), .val (.tup2 (.cz (rootN z.natAbs : Int)) (.is (.int .i64 0))), .val (.cz (rootN z.natAbs : Int)), .val (.is (.int .i64 0)), .new 2 none, .put 3 17, .val (.is (.int .i64 0))] [] [] w.heap.size (by kernel_rfl) (by kernel_rfl) trivial HB ?_ ?_
  · exact ⟨fun s v h => does_val rfl rfl (x_load_z ((h.same 1 rfl).trans p7) ((h.far q6 b10.lt (by simp)).trans b10)) (f3.mono h.mono),
      fun s v h => does_call rfl rfl (x_call1 Try.call18) (own_k (h.dep 0 rfl) (by omega)),
      fun s v h => does_call rfl rfl (x_call1 Try.call17) (zroot_a (h.dep 1 rfl) (by omega) ds),
      fun s v h => does_val rfl rfl (x_move) (h.dep 2 rfl),
      fun s v h => by obtain ⟨r0, r1, e, f0, f1⟩ := tup2_at (h.dep 3 rfl); exact does_val rfl rfl (x_ext e rfl) f0,
      fun s v h => by obtain ⟨r0, r1, e, f0, f1⟩ := tup2_at (h.dep 3 rfl); exact does_val rfl rfl (x_ext e rfl) f1,
      fun s v h => does_new rfl rfl x_alloc_z (okz _ _ _ _) rfl (.inl rfl),
      fun s v h => by obtain ⟨q, e1, e2, e3⟩ := new_at (h.dep 6 rfl); exact does_put_z rfl rfl e1 (h.dep 4 rfl).shape e3 (Nat.le_trans HB e2),
      fun s v h => does_val rfl rfl (x_assign) (h.dep 5 rfl), trivial⟩
  intro g12 ts v12 hts E12
  simp only [fillL, Nat.reduceAdd, List.setIfInBounds_toArray, List.set_cons_zero, List.set_cons_succ] at hts
  subst hts
  have T13 : Below w.heap.size w v12 := T2.trans E12.below
  have l14 : q6 < v1.heap.size := b10.lt
  have b15 : Bx v12 q6 24 #[.bool na0, .slice A0 n0 c0] := (E12.far q6 b10.lt (by simp)).trans b10
  have f16 := f3.mono E12.mono
  have f17 := f4.mono E12.mono
  have f18 : Az 1048576 v12 (g12 0) z := E12.facts 0 (by decide)
  have f19 : Az 1048576 v12 (g12 1) z := E12.facts 1 (by decide)
  have f20 : Cz v12 (g12 4) (rootN z.natAbs : Int) := E12.facts 4 (by decide)
  have e21 : g12 5 = (.int .i64 0) := E12.facts 5 (by decide)
  have e22 : g12 8 = (.int .i64 0) := E12.facts 8 (by decide)
  obtain ⟨q23, p24, l25, o26⟩ : ∃ q, g12 6 = .pointer (some ⟨q, 0, none⟩) ∧ v1.heap.size ≤ q ∧ OkB v12 q 2 := E12.facts 6 (by decide)
  have h27 : w.heap.size ≤ q23 := Nat.le_trans HB l25
  have n28 : q6 ≠ q23 := by omega
  obtain ⟨t29, x31, A32, m33, c34, e35, b30⟩ := put_info (E12.facts 7 (by decide)) p24 f20.shape
  have f36 : Cz v12 (.agg #[.bool x31, .slice A32 m33 c34]) (rootN z.natAbs : Int) := f20.at e35.symm
  refine then_normal ?_
  refine wp_seq ?_
  have HB : w.heap.size ≤ v12.heap.size := T13.size
  refine wp_plan_seq [.val (.az 1048576 z), .val (.tup2 (.cz (rootN z.natAbs : Int)) (.is (.int .i64 0))), .val (.tup2 (.cz (rootN z.natAbs : Int)) (.is (.int .i64 0))), .val (.cz (rootN z.natAbs : Int)), .val (.is (.int .i64 0)), .new 2 none, .put 5 22, .val (.is (.int .i64 0))] [] [] w.heap.size (by kernel_rfl) (by kernel_rfl) trivial HB ?_ ?_
  · exact ⟨fun s v h => does_val rfl rfl (x_load_z ((h.same 1 rfl).trans p7) ((h.far q6 b15.lt (by simp)).trans b15)) (f16.mono h.mono),
      fun s v h => does_call rfl rfl (x_call1 Try.call19) (r2root_a (h.dep 0 rfl) (by omega) ds),
      fun s v h => does_val rfl rfl (x_move) (h.dep 1 rfl),
      fun s v h => by obtain ⟨r0, r1, e, f0, f1⟩ := tup2_at (h.dep 2 rfl); exact does_val rfl rfl (x_ext e rfl) f0,
      fun s v h => by obtain ⟨r0, r1, e, f0, f1⟩ := tup2_at (h.dep 2 rfl); exact does_val rfl rfl (x_ext e rfl) f1,
      fun s v h => does_new rfl rfl x_alloc_z (okz _ _ _ _) rfl (.inl rfl),
      fun s v h => by obtain ⟨q, e1, e2, e3⟩ := new_at (h.dep 5 rfl); exact does_put_z rfl rfl e1 (h.dep 3 rfl).shape e3 (Nat.le_trans HB e2),
      fun s v h => does_val rfl rfl (x_assign) (h.dep 4 rfl), trivial⟩
  intro g37 ts v37 hts E37
  simp only [fillL, Nat.reduceAdd, List.setIfInBounds_toArray, List.set_cons_zero, List.set_cons_succ] at hts
  subst hts
  have T38 : Below w.heap.size w v37 := T13.trans E37.below
  have l39 : q6 < v12.heap.size := b15.lt
  have l40 : q23 < v12.heap.size := b30.lt
  have b41 : Bx v37 q6 24 #[.bool na0, .slice A0 n0 c0] := (E37.far q6 b15.lt (by simp)).trans b15
  have b42 : Bx v37 q23 t29 #[.bool x31, .slice A32 m33 c34] := (E37.far q23 b30.lt (by simp)).trans b30
  have f43 := f16.mono E37.mono
  have f44 := f17.mono E37.mono
  have f45 := f18.mono E37.mono
  have f46 := f19.mono E37.mono
  have f47 := f20.mono E37.mono
  have f48 := f36.mono E37.mono
  have f49 : Az 1048576 v37 (g37 0) z := E37.facts 0 (by decide)
  have f50 : Cz v37 (g37 3) (rootN z.natAbs : Int) := E37.facts 3 (by decide)
  have e51 : g37 4 = (.int .i64 0) := E37.facts 4 (by decide)
  have e52 : g37 7 = (.int .i64 0) := E37.facts 7 (by decide)
  obtain ⟨q53, p54, l55, o56⟩ : ∃ q, g37 5 = .pointer (some ⟨q, 0, none⟩) ∧ v12.heap.size ≤ q ∧ OkB v37 q 2 := E37.facts 5 (by decide)
  have h57 : w.heap.size ≤ q53 := Nat.le_trans HB l55
  have n58 : q6 ≠ q53 := by omega
  have n59 : q23 ≠ q53 := by omega
  obtain ⟨t60, x62, A63, m64, c65, e66, b61⟩ := put_info (E37.facts 6 (by decide)) p54 f50.shape
  have f67 : Cz v37 (.agg #[.bool x62, .slice A63 m64 c65]) (rootN z.natAbs : Int) := f50.at e66.symm
  refine then_normal ?_
  refine wp_seq ?_
  refine wp_seq ?_
  have HB : w.heap.size ≤ v37.heap.size := T38.size
  refine wp_plan_any [.val (.is (.int .i64 0)), .val (.is (.int .i64 0)), .val (.is (.bool false)), .val (.is (.bool false)), .val (.cz (rootN z.natAbs : Int)), .val (.cz (rootN z.natAbs : Int)), .val (.is (.bool true)), .val (.is (.bool false)), .val (.is (.bool false)), .val (.is (.bool false)), .val (.az 1048576 z), .val (.az 1048576 z), .val (.is (.int .i64 (blen z.natAbs))), .val (.az 1048576 z), .val (.is (.int .i64 (blen z.natAbs))), .val (.is (.bool false)), .val (.is (.bool false))] [] [] w.heap.size (by kernel_rfl) (by kernel_rfl) (by kernel_rfl) trivial HB ?_ ?_
  · exact ⟨fun s v h => does_val rfl rfl (x_move) ((h.same 4 rfl).trans e22),
      fun s v h => does_val rfl rfl (x_move) ((h.same 6 rfl).trans e52),
      fun s v h => does_val rfl rfl (x_neq_int (h.dep 0 rfl) (h.dep 1 rfl)) rfl,
      fun s v h => does_val rfl rfl (x_move) (h.dep 2 rfl),
      fun s v h => does_val rfl (wanted_by (b := false) (want := false) rfl rfl (h.dep 3 rfl)) (x_load_z ((h.same 3 rfl).trans p24) ((h.far q23 b42.lt (by simp)).trans b42)) (f48.mono ((Mono.drew _).trans h.mono)),
      fun s v h => does_val rfl (wanted_by (b := false) (want := false) rfl rfl (h.dep 3 rfl)) (x_load_z ((h.same 5 rfl).trans p54) ((h.far q53 b61.lt (by simp)).trans b61)) (f67.mono ((Mono.drew _).trans h.mono)),
      fun s v h => does_call rfl (wanted_by (b := false) (want := false) rfl rfl (h.dep 3 rfl)) (x_call2 Try.call12) (eq_k (h.dep 4 rfl) (h.dep 5 rfl) rfl),
      fun s v h => does_val rfl (wanted_by (b := false) (want := false) rfl rfl (h.dep 3 rfl)) (x_not (h.dep 6 rfl)) rfl,
      fun s v h => does_val rfl rfl (x_pick (h.dep 3 rfl)) (h.dep 7 rfl),
      fun s v h => does_val rfl rfl (x_move) (h.dep 8 rfl),
      fun s v h => does_val rfl (wanted_by (b := false) (want := false) rfl rfl (h.dep 9 rfl)) (x_load_z ((h.same 1 rfl).trans p7) ((h.far q6 b41.lt (by simp)).trans b41)) (f43.mono ((Mono.drew _).trans h.mono)),
      fun s v h => does_call rfl (wanted_by (b := false) (want := false) rfl rfl (h.dep 9 rfl)) (x_call1 Try.call18) (own_k (h.dep 10 rfl) (by omega)),
      fun s v h => does_call rfl (wanted_by (b := false) (want := false) rfl rfl (h.dep 9 rfl)) (x_call1 Try.call20) (zbits_k (h.dep 11 rfl)),
      fun s v h => does_val rfl (wanted_by (b := false) (want := false) rfl rfl (h.dep 9 rfl)) (x_load_z ((h.same 1 rfl).trans p7) ((h.far q6 b41.lt (by simp)).trans b41)) (f43.mono ((Mono.drew _).trans h.mono)),
      fun s v h => does_call rfl (wanted_by (b := false) (want := false) rfl rfl (h.dep 9 rfl)) (x_call1 Try.call21) (r2bits_k (h.dep 13 rfl)),
      fun s v h => does_val rfl (wanted_by (b := false) (want := false) rfl rfl (h.dep 9 rfl)) (x_neq_int (h.dep 12 rfl) (h.dep 14 rfl)) (by show _ = _; simp),
      fun s v h => does_val rfl rfl (x_pick (h.dep 9 rfl)) (h.dep 15 rfl), trivial⟩
  intro g68 ts v68 hts E68
  simp only [fillL, Nat.reduceAdd, List.setIfInBounds_toArray, List.set_cons_zero, List.set_cons_succ] at hts
  subst hts
  have T69 : Below w.heap.size w v68 := (below_toDrew T38).trans E68.below
  have l70 : q6 < v37.heap.size := b41.lt
  have l71 : q23 < v37.heap.size := b42.lt
  have l72 : q53 < v37.heap.size := b61.lt
  have b73 : Bx v68 q6 24 #[.bool na0, .slice A0 n0 c0] := (E68.far q6 b41.lt (by simp)).trans b41
  have b74 : Bx v68 q23 t29 #[.bool x31, .slice A32 m33 c34] := (E68.far q23 b42.lt (by simp)).trans b42
  have b75 : Bx v68 q53 t60 #[.bool x62, .slice A63 m64 c65] := (E68.far q53 b61.lt (by simp)).trans b61
  have f76 := f43.mono ((Mono.drew _).trans E68.mono)
  have f77 := f44.mono ((Mono.drew _).trans E68.mono)
  have f78 := f45.mono ((Mono.drew _).trans E68.mono)
  have f79 := f46.mono ((Mono.drew _).trans E68.mono)
  have f80 := f47.mono ((Mono.drew _).trans E68.mono)
  have f81 := f48.mono ((Mono.drew _).trans E68.mono)
  have f82 := f49.mono ((Mono.drew _).trans E68.mono)
  have f83 := f50.mono ((Mono.drew _).trans E68.mono)
  have f84 := f67.mono ((Mono.drew _).trans E68.mono)
  have e85 : g68 0 = (.int .i64 0) := E68.facts 0 (by decide)
  have e86 : g68 1 = (.int .i64 0) := E68.facts 1 (by decide)
  have e87 : g68 2 = (.bool false) := E68.facts 2 (by decide)
  have e88 : g68 3 = (.bool false) := E68.facts 3 (by decide)
  have f89 : Cz v68 (g68 4) (rootN z.natAbs : Int) := E68.facts 4 (by decide)
  have f90 : Cz v68 (g68 5) (rootN z.natAbs : Int) := E68.facts 5 (by decide)
  have e91 : g68 6 = (.bool true) := E68.facts 6 (by decide)
  have e92 : g68 7 = (.bool false) := E68.facts 7 (by decide)
  have e93 : g68 8 = (.bool false) := E68.facts 8 (by decide)
  have e94 : g68 9 = (.bool false) := E68.facts 9 (by decide)
  have f95 : Az 1048576 v68 (g68 10) z := E68.facts 10 (by decide)
  have f96 : Az 1048576 v68 (g68 11) z := E68.facts 11 (by decide)
  have e97 : g68 12 = (.int .i64 (blen z.natAbs)) := E68.facts 12 (by decide)
  have f98 : Az 1048576 v68 (g68 13) z := E68.facts 13 (by decide)
  have e99 : g68 14 = (.int .i64 (blen z.natAbs)) := E68.facts 14 (by decide)
  have e100 : g68 15 = (.bool false) := E68.facts 15 (by decide)
  have e101 : g68 16 = (.bool false) := E68.facts 16 (by decide)
  refine then_normal ?_
  refine wp_cond_false e101 ?_
  refine wp_skip ?_
  refine then_normal ?_
  refine wp_seq ?_
  have HB : w.heap.size ≤ v68.heap.size := T69.size
  refine wp_plan_seq [.val (.az 1048576 z), .val (.az 1048576 z), .val (.tup3 (.is (.int .u64 ((z.natAbs / 2 ^ e : Nat) : Int))) (.is (.int .i64 (e : Int))) (.is (.bool b))), .val (.tup3 (.is (.int .u64 ((z.natAbs / 2 ^ e : Nat) : Int))) (.is (.int .i64 (e : Int))) (.is (.bool b))), .val (.is (.int .u64 ((z.natAbs / 2 ^ e : Nat) : Int))), .val (.is (.int .i64 (e : Int))), .val (.is (.bool b)), .val (.is (.int .u64 ((z.natAbs / 2 ^ e : Nat) : Int))), .val (.is (.int .i64 (e : Int))), .val (.is (.bool b))] [] [] w.heap.size (by kernel_rfl) (by kernel_rfl) trivial HB ?_ ?_
  · exact ⟨fun s v h => does_val rfl rfl (x_load_z ((h.same 1 rfl).trans p7) ((h.far q6 b73.lt (by simp)).trans b73)) (f76.mono h.mono),
      fun s v h => does_call rfl rfl (x_call1 Try.call18) (own_k (h.dep 0 rfl) (by omega)),
      fun s v h => does_call rfl rfl (x_call1 Try.call22) (ztop_k (h.dep 1 rfl) (by omega) he hq b hb),
      fun s v h => does_val rfl rfl (x_move) (h.dep 2 rfl),
      fun s v h => by obtain ⟨r0, r1, r2, e, f0, f1, f2⟩ := tup3_at (h.dep 3 rfl); exact does_val rfl rfl (x_ext e rfl) f0,
      fun s v h => by obtain ⟨r0, r1, r2, e, f0, f1, f2⟩ := tup3_at (h.dep 3 rfl); exact does_val rfl rfl (x_ext e rfl) f1,
      fun s v h => by obtain ⟨r0, r1, r2, e, f0, f1, f2⟩ := tup3_at (h.dep 3 rfl); exact does_val rfl rfl (x_ext e rfl) f2,
      fun s v h => does_val rfl rfl (x_assign) (h.dep 4 rfl),
      fun s v h => does_val rfl rfl (x_assign) (h.dep 5 rfl),
      fun s v h => does_val rfl rfl (x_assign) (h.dep 6 rfl), trivial⟩
  intro g102 ts v102 hts E102
  simp only [fillL, Nat.reduceAdd, List.setIfInBounds_toArray, List.set_cons_zero, List.set_cons_succ] at hts
  subst hts
  have T103 : Below w.heap.size w v102 := T69.trans E102.below
  have l104 : q6 < v68.heap.size := b73.lt
  have l105 : q23 < v68.heap.size := b74.lt
  have l106 : q53 < v68.heap.size := b75.lt
  have b107 : Bx v102 q6 24 #[.bool na0, .slice A0 n0 c0] := (E102.far q6 b73.lt (by simp)).trans b73
  have b108 : Bx v102 q23 t29 #[.bool x31, .slice A32 m33 c34] := (E102.far q23 b74.lt (by simp)).trans b74
  have b109 : Bx v102 q53 t60 #[.bool x62, .slice A63 m64 c65] := (E102.far q53 b75.lt (by simp)).trans b75
  have f110 := f76.mono E102.mono
  have f111 := f77.mono E102.mono
  have f112 := f78.mono E102.mono
  have f113 := f79.mono E102.mono
  have f114 := f80.mono E102.mono
  have f115 := f81.mono E102.mono
  have f116 := f82.mono E102.mono
  have f117 := f83.mono E102.mono
  have f118 := f84.mono E102.mono
  have f119 := f89.mono E102.mono
  have f120 := f90.mono E102.mono
  have f121 := f95.mono E102.mono
  have f122 := f96.mono E102.mono
  have f123 := f98.mono E102.mono
  have f124 : Az 1048576 v102 (g102 0) z := E102.facts 0 (by decide)
  have f125 : Az 1048576 v102 (g102 1) z := E102.facts 1 (by decide)
  have e126 : g102 4 = (.int .u64 ((z.natAbs / 2 ^ e : Nat) : Int)) := E102.facts 4 (by decide)
  have e127 : g102 5 = (.int .i64 (e : Int)) := E102.facts 5 (by decide)
  have e128 : g102 6 = (.bool b) := E102.facts 6 (by decide)
  have e129 : g102 7 = (.int .u64 ((z.natAbs / 2 ^ e : Nat) : Int)) := E102.facts 7 (by decide)
  have e130 : g102 8 = (.int .i64 (e : Int)) := E102.facts 8 (by decide)
  have e131 : g102 9 = (.bool b) := E102.facts 9 (by decide)
  refine then_normal ?_
  refine wp_seq ?_
  have HB : w.heap.size ≤ v102.heap.size := T103.size
  refine wp_plan_seq [.val (.az 1048576 z), .val (.tup3 (.is (.int .u64 ((z.natAbs / 2 ^ e : Nat) : Int))) (.is (.int .i64 (e : Int))) (.is (.bool b))), .val (.tup3 (.is (.int .u64 ((z.natAbs / 2 ^ e : Nat) : Int))) (.is (.int .i64 (e : Int))) (.is (.bool b))), .val (.is (.int .u64 ((z.natAbs / 2 ^ e : Nat) : Int))), .val (.is (.int .i64 (e : Int))), .val (.is (.bool b)), .val (.is (.int .u64 ((z.natAbs / 2 ^ e : Nat) : Int))), .val (.is (.int .i64 (e : Int))), .val (.is (.bool b))] [] [] w.heap.size (by kernel_rfl) (by kernel_rfl) trivial HB ?_ ?_
  · exact ⟨fun s v h => does_val rfl rfl (x_load_z ((h.same 1 rfl).trans p7) ((h.far q6 b107.lt (by simp)).trans b107)) (f110.mono h.mono),
      fun s v h => does_call rfl rfl (x_call1 Try.call23) (r2top_a (h.dep 0 rfl) (by omega) he2 dt hq b hb2),
      fun s v h => does_val rfl rfl (x_move) (h.dep 1 rfl),
      fun s v h => by obtain ⟨r0, r1, r2, e, f0, f1, f2⟩ := tup3_at (h.dep 2 rfl); exact does_val rfl rfl (x_ext e rfl) f0,
      fun s v h => by obtain ⟨r0, r1, r2, e, f0, f1, f2⟩ := tup3_at (h.dep 2 rfl); exact does_val rfl rfl (x_ext e rfl) f1,
      fun s v h => by obtain ⟨r0, r1, r2, e, f0, f1, f2⟩ := tup3_at (h.dep 2 rfl); exact does_val rfl rfl (x_ext e rfl) f2,
      fun s v h => does_val rfl rfl (x_assign) (h.dep 3 rfl),
      fun s v h => does_val rfl rfl (x_assign) (h.dep 4 rfl),
      fun s v h => does_val rfl rfl (x_assign) (h.dep 5 rfl), trivial⟩
  intro g132 ts v132 hts E132
  simp only [fillL, Nat.reduceAdd, List.setIfInBounds_toArray, List.set_cons_zero, List.set_cons_succ] at hts
  subst hts
  have T133 : Below w.heap.size w v132 := T103.trans E132.below
  have l134 : q6 < v102.heap.size := b107.lt
  have l135 : q23 < v102.heap.size := b108.lt
  have l136 : q53 < v102.heap.size := b109.lt
  have b137 : Bx v132 q6 24 #[.bool na0, .slice A0 n0 c0] := (E132.far q6 b107.lt (by simp)).trans b107
  have b138 : Bx v132 q23 t29 #[.bool x31, .slice A32 m33 c34] := (E132.far q23 b108.lt (by simp)).trans b108
  have b139 : Bx v132 q53 t60 #[.bool x62, .slice A63 m64 c65] := (E132.far q53 b109.lt (by simp)).trans b109
  have f140 := f110.mono E132.mono
  have f141 := f111.mono E132.mono
  have f142 := f112.mono E132.mono
  have f143 := f113.mono E132.mono
  have f144 := f114.mono E132.mono
  have f145 := f115.mono E132.mono
  have f146 := f116.mono E132.mono
  have f147 := f117.mono E132.mono
  have f148 := f118.mono E132.mono
  have f149 := f119.mono E132.mono
  have f150 := f120.mono E132.mono
  have f151 := f121.mono E132.mono
  have f152 := f122.mono E132.mono
  have f153 := f123.mono E132.mono
  have f154 := f124.mono E132.mono
  have f155 := f125.mono E132.mono
  have f156 : Az 1048576 v132 (g132 0) z := E132.facts 0 (by decide)
  have e157 : g132 3 = (.int .u64 ((z.natAbs / 2 ^ e : Nat) : Int)) := E132.facts 3 (by decide)
  have e158 : g132 4 = (.int .i64 (e : Int)) := E132.facts 4 (by decide)
  have e159 : g132 5 = (.bool b) := E132.facts 5 (by decide)
  have e160 : g132 6 = (.int .u64 ((z.natAbs / 2 ^ e : Nat) : Int)) := E132.facts 6 (by decide)
  have e161 : g132 7 = (.int .i64 (e : Int)) := E132.facts 7 (by decide)
  have e162 : g132 8 = (.bool b) := E132.facts 8 (by decide)
  refine then_normal ?_
  refine wp_seq ?_
  have HB : w.heap.size ≤ v132.heap.size := T133.size
  refine wp_plan_seq [.val (.is (.int .u64 ((z.natAbs / 2 ^ e : Nat) : Int))), .val (.is (.int .u64 ((z.natAbs / 2 ^ e : Nat) : Int))), .val (.is (.bool true)), .val (.is (.bool true)), .val (.is (.int .i64 (e : Int))), .val (.is (.int .i64 (e : Int))), .val (.is (.bool true)), .val (.is (.bool true)), .val (.is (.bool true)), .val (.is (.bool b)), .val (.is (.bool b)), .val (.is (.bool true)), .val (.is (.bool true)), .val (.is (.bool true))] [] [] w.heap.size (by kernel_rfl) (by kernel_rfl) trivial HB ?_ ?_
  · exact ⟨fun s v h => does_val rfl rfl (x_move) ((h.same 7 rfl).trans e129),
      fun s v h => does_val rfl rfl (x_move) ((h.same 10 rfl).trans e160),
      fun s v h => does_val rfl rfl (x_eql_u64 (h.dep 0 rfl) (h.dep 1 rfl)) (by show _ = _; simp),
      fun s v h => does_val rfl rfl (x_move) (h.dep 2 rfl),
      fun s v h => does_val rfl (wanted_by (b := true) (want := true) rfl rfl (h.dep 3 rfl)) (x_move) ((h.same 8 rfl).trans e130),
      fun s v h => does_val rfl (wanted_by (b := true) (want := true) rfl rfl (h.dep 3 rfl)) (x_move) ((h.same 11 rfl).trans e161),
      fun s v h => does_val rfl (wanted_by (b := true) (want := true) rfl rfl (h.dep 3 rfl)) (x_eql_int (h.dep 4 rfl) (h.dep 5 rfl)) (by show _ = _; simp),
      fun s v h => does_val rfl rfl (x_pick (h.dep 3 rfl)) (h.dep 6 rfl),
      fun s v h => does_val rfl rfl (x_move) (h.dep 7 rfl),
      fun s v h => does_val rfl (wanted_by (b := true) (want := true) rfl rfl (h.dep 8 rfl)) (x_move) ((h.same 9 rfl).trans e131),
      fun s v h => does_val rfl (wanted_by (b := true) (want := true) rfl rfl (h.dep 8 rfl)) (x_move) ((h.same 12 rfl).trans e162),
      fun s v h => does_val rfl (wanted_by (b := true) (want := true) rfl rfl (h.dep 8 rfl)) (x_eql_bool (h.dep 9 rfl) (h.dep 10 rfl)) (by show _ = _; simp),
      fun s v h => does_val rfl rfl (x_pick (h.dep 8 rfl)) (h.dep 11 rfl),
      fun s v h => does_val rfl rfl (x_assign) (h.dep 12 rfl), trivial⟩
  intro g163 ts v163 hts E163
  simp only [fillL, Nat.reduceAdd, List.setIfInBounds_toArray, List.set_cons_zero, List.set_cons_succ] at hts
  subst hts
  have T164 : Below w.heap.size w v163 := T133.trans E163.below
  have l165 : q6 < v132.heap.size := b137.lt
  have l166 : q23 < v132.heap.size := b138.lt
  have l167 : q53 < v132.heap.size := b139.lt
  have b168 : Bx v163 q6 24 #[.bool na0, .slice A0 n0 c0] := (E163.far q6 b137.lt (by simp)).trans b137
  have b169 : Bx v163 q23 t29 #[.bool x31, .slice A32 m33 c34] := (E163.far q23 b138.lt (by simp)).trans b138
  have b170 : Bx v163 q53 t60 #[.bool x62, .slice A63 m64 c65] := (E163.far q53 b139.lt (by simp)).trans b139
  have f171 := f140.mono E163.mono
  have f172 := f141.mono E163.mono
  have f173 := f142.mono E163.mono
  have f174 := f143.mono E163.mono
  have f175 := f144.mono E163.mono
  have f176 := f145.mono E163.mono
  have f177 := f146.mono E163.mono
  have f178 := f147.mono E163.mono
  have f179 := f148.mono E163.mono
  have f180 := f149.mono E163.mono
  have f181 := f150.mono E163.mono
  have f182 := f151.mono E163.mono
  have f183 := f152.mono E163.mono
  have f184 := f153.mono E163.mono
  have f185 := f154.mono E163.mono
  have f186 := f155.mono E163.mono
  have f187 := f156.mono E163.mono
  have e188 : g163 0 = (.int .u64 ((z.natAbs / 2 ^ e : Nat) : Int)) := E163.facts 0 (by decide)
  have e189 : g163 1 = (.int .u64 ((z.natAbs / 2 ^ e : Nat) : Int)) := E163.facts 1 (by decide)
  have e190 : g163 2 = (.bool true) := E163.facts 2 (by decide)
  have e191 : g163 3 = (.bool true) := E163.facts 3 (by decide)
  have e192 : g163 4 = (.int .i64 (e : Int)) := E163.facts 4 (by decide)
  have e193 : g163 5 = (.int .i64 (e : Int)) := E163.facts 5 (by decide)
  have e194 : g163 6 = (.bool true) := E163.facts 6 (by decide)
  have e195 : g163 7 = (.bool true) := E163.facts 7 (by decide)
  have e196 : g163 8 = (.bool true) := E163.facts 8 (by decide)
  have e197 : g163 9 = (.bool b) := E163.facts 9 (by decide)
  have e198 : g163 10 = (.bool b) := E163.facts 10 (by decide)
  have e199 : g163 11 = (.bool true) := E163.facts 11 (by decide)
  have e200 : g163 12 = (.bool true) := E163.facts 12 (by decide)
  have e201 : g163 13 = (.bool true) := E163.facts 13 (by decide)
  refine then_normal ?_
  refine wp_ret ?_
  exact bodyPost_ret (results_tmp (t := 2) rfl _ _ _) rfl ⟨_, rfl, e201, T164⟩

set_option maxRecDepth 8000 in
theorem zt_ab {w : World} {x : Value} {z : Int} (h0 : Az 1048576 w x z) (ds : decide (z.sign < 0) = false) {e : Nat} (he : max 0 ((blen z.natAbs : Int) - 53) = (e : Int)) (he2 : e = 0) (dt : decide (53 < (blen z.natAbs : Int)) = false) (hq : Hid (z.natAbs / 2 ^ e < 9007199254740992)) (b : Bool) (hb : (((digs (z.natAbs % 2 ^ e)).length : Int) == 0) = b) (hb2 : ((((z.natAbs % 2 ^ e : Nat) : Int)).sign == 0) = b)  : Calls Try.prog 4 #[x] w (Ret (.is (.bool true)) w) := by
  have la0 := h0.len
  obtain ⟨na0, A0, n0, c0, M0, rfl, hm0, hz0⟩ := h0.parts
  have T0 : Below w.heap.size w w := Below.refl _ _
  go_enter Try.func4, Try.ntmps4
  refine wp_seq ?_
  have HB : w.heap.size ≤ w.heap.size := T0.size
  refine wp_plan_seq [.new 2 (some (24, #[.bool na0, .slice A0 n0 c0])), .val (.is (.bool false))] [] [] w.heap.size (by kernel_rfl) (by kernel_rfl) trivial HB ?_ ?_
  · exact ⟨fun s v h => does_new rfl rfl (x_box_z (h.same 0 rfl)) (okz _ _ _ _) rfl (.inr rfl),
      fun s v h => does_val rfl rfl (x_assign) rfl, trivial⟩
  intro g202 ts v202 hts E202
  simp only [fillL, Nat.reduceAdd, List.setIfInBounds_toArray, List.set_cons_zero, List.set_cons_succ] at hts
  subst hts
  have T203 : Below w.heap.size w v202 := T0.trans E202.below
  have f204 := h0.mono E202.mono
  have f205 := hm0.mono E202.mono
  have e206 : g202 1 = (.bool false) := E202.facts 1 (by decide)
  obtain ⟨q207, p208, l209, o210, b211⟩ : ∃ q, g202 0 = .pointer (some ⟨q, 0, none⟩) ∧ w.heap.size ≤ q ∧ OkB v202 q 2 ∧ Bx v202 q 24 #[.bool na0, .slice A0 n0 c0] := E202.facts 0 (by decide)
  have h212 : w.heap.size ≤ q207 := Nat.le_trans HB l209
  refine then_normal ?_
  refine wp_seq ?_
  have HB : w.heap.size ≤ v202.heap.size := T203.size
  refine wp_plan_seq [.val (.az 1048576 z), .val (.az 1048576 z), .val (.tup2 (.cz (rootN z.natAbs : Int)) (.is (.int .i64 0))), .val (.tup2 (.cz (rootN z.natAbs : Int)) (.is (.int .i64 0))), .val (.cz (rootN z.natAbs : Int)), .val (.is (.int .i64 0)), .new 2 none, .put 3 17, .val (.is (.int .i64 0))] [] [] w.heap.size (by kernel_rfl) (by kernel_rfl) trivial HB ?_ ?_
  · exact ⟨fun s v h => does_val rfl rfl (x_load_z ((h.same 1 rfl).trans p208) ((h.far q207 b211.lt (by simp)).trans b211)) (f204.mono h.mono),
      fun s v h => does_call rfl rfl (x_call1 Try.call18) (own_k (h.dep 0 rfl) (by omega)),
      fun s v h => does_call rfl rfl (x_call1 Try.call17) (zroot_a (h.dep 1 rfl) (by omega) ds),
      fun s v h => does_val rfl rfl (x_move) (h.dep 2 rfl),
      fun s v h => by obtain ⟨r0, r1, e, f0, f1⟩ := tup2_at (h.dep 3 rfl); exact does_val rfl rfl (x_ext e rfl) f0,
      fun s v h => by obtain ⟨r0, r1, e, f0, f1⟩ := tup2_at (h.dep 3 rfl); exact does_val rfl rfl (x_ext e rfl) f1,
      fun s v h => does_new rfl rfl x_alloc_z (okz _ _ _ _) rfl (.inl rfl),
      fun s v h => by obtain ⟨q, e1, e2, e3⟩ := new_at (h.dep 6 rfl); exact does_put_z rfl rfl e1 (h.dep 4 rfl).shape e3 (Nat.le_trans HB e2),
      fun s v h => does_val rfl rfl (x_assign) (h.dep 5 rfl), trivial⟩
  intro g213 ts v213 hts E213
  simp only [fillL, Nat.reduceAdd, List.setIfInBounds_toArray, List.set_cons_zero, List.set_cons_succ] at hts
  subst hts
  have T214 : Below w.heap.size w v213 := T203.trans E213.below
  have l215 : q207 < v202.heap.size := b211.lt
  have b216 : Bx v213 q207 24 #[.bool na0, .slice A0 n0 c0] := (E213.far q207 b211.lt (by simp)).trans b211
  have f217 := f204.mono E213.mono
  have f218 := f205.mono E213.mono
  have f219 : Az 1048576 v213 (g213 0) z := E213.facts 0 (by decide)
  have f220 : Az 1048576 v213 (g213 1) z := E213.facts 1 (by decide)
  have f221 : Cz v213 (g213 4) (rootN z.natAbs : Int) := E213.facts 4 (by decide)
  have e222 : g213 5 = (.int .i64 0) := E213.facts 5 (by decide)
  have e223 : g213 8 = (.int .i64 0) := E213.facts 8 (by decide)
  obtain ⟨q224, p225, l226, o227⟩ : ∃ q, g213 6 = .pointer (some ⟨q, 0, none⟩) ∧ v202.heap.size ≤ q ∧ OkB v213 q 2 := E213.facts 6 (by decide)
  have h228 : w.heap.size ≤ q224 := Nat.le_trans HB l226
  have n229 : q207 ≠ q224 := by omega
  obtain ⟨t230, x232, A233, m234, c235, e236, b231⟩ := put_info (E213.facts 7 (by decide)) p225 f221.shape
  have f237 : Cz v213 (.agg #[.bool x232, .slice A233 m234 c235]) (rootN z.natAbs : Int) := f221.at e236.symm
  refine then_normal ?_
  refine wp_seq ?_
  have HB : w.heap.size ≤ v213.heap.size := T214.size
  refine wp_plan_seq [.val (.az 1048576 z), .val (.tup2 (.cz (rootN z.natAbs : Int)) (.is (.int .i64 0))), .val (.tup2 (.cz (rootN z.natAbs : Int)) (.is (.int .i64 0))), .val (.cz (rootN z.natAbs : Int)), .val (.is (.int .i64 0)), .new 2 none, .put 5 22, .val (.is (.int .i64 0))] [] [] w.heap.size (by kernel_rfl) (by kernel_rfl) trivial HB ?_ ?_
  · exact ⟨fun s v h => does_val rfl rfl (x_load_z ((h.same 1 rfl).trans p208) ((h.far q207 b216.lt (by simp)).trans b216)) (f217.mono h.mono),
      fun s v h => does_call rfl rfl (x_call1 Try.call19) (r2root_a (h.dep 0 rfl) (by omega) ds),
      fun s v h => does_val rfl rfl (x_move) (h.dep 1 rfl),
      fun s v h => by obtain ⟨r0, r1, e, f0, f1⟩ := tup2_at (h.dep 2 rfl); exact does_val rfl rfl (x_ext e rfl) f0,
      fun s v h => by obtain ⟨r0, r1, e, f0, f1⟩ := tup2_at (h.dep 2 rfl); exact does_val rfl rfl (x_ext e rfl) f1,
      fun s v h => does_new rfl rfl x_alloc_z (okz _ _ _ _) rfl (.inl rfl),
      fun s v h => by obtain ⟨q, e1, e2, e3⟩ := new_at (h.dep 5 rfl); exact does_put_z rfl rfl e1 (h.dep 3 rfl).shape e3 (Nat.le_trans HB e2),
      fun s v h => does_val rfl rfl (x_assign) (h.dep 4 rfl), trivial⟩
  intro g238 ts v238 hts E238
  simp only [fillL, Nat.reduceAdd, List.setIfInBounds_toArray, List.set_cons_zero, List.set_cons_succ] at hts
  subst hts
  have T239 : Below w.heap.size w v238 := T214.trans E238.below
  have l240 : q207 < v213.heap.size := b216.lt
  have l241 : q224 < v213.heap.size := b231.lt
  have b242 : Bx v238 q207 24 #[.bool na0, .slice A0 n0 c0] := (E238.far q207 b216.lt (by simp)).trans b216
  have b243 : Bx v238 q224 t230 #[.bool x232, .slice A233 m234 c235] := (E238.far q224 b231.lt (by simp)).trans b231
  have f244 := f217.mono E238.mono
  have f245 := f218.mono E238.mono
  have f246 := f219.mono E238.mono
  have f247 := f220.mono E238.mono
  have f248 := f221.mono E238.mono
  have f249 := f237.mono E238.mono
  have f250 : Az 1048576 v238 (g238 0) z := E238.facts 0 (by decide)
  have f251 : Cz v238 (g238 3) (rootN z.natAbs : Int) := E238.facts 3 (by decide)
  have e252 : g238 4 = (.int .i64 0) := E238.facts 4 (by decide)
  have e253 : g238 7 = (.int .i64 0) := E238.facts 7 (by decide)
  obtain ⟨q254, p255, l256, o257⟩ : ∃ q, g238 5 = .pointer (some ⟨q, 0, none⟩) ∧ v213.heap.size ≤ q ∧ OkB v238 q 2 := E238.facts 5 (by decide)
  have h258 : w.heap.size ≤ q254 := Nat.le_trans HB l256
  have n259 : q207 ≠ q254 := by omega
  have n260 : q224 ≠ q254 := by omega
  obtain ⟨t261, x263, A264, m265, c266, e267, b262⟩ := put_info (E238.facts 6 (by decide)) p255 f251.shape
  have f268 : Cz v238 (.agg #[.bool x263, .slice A264 m265 c266]) (rootN z.natAbs : Int) := f251.at e267.symm
  refine then_normal ?_
  refine wp_seq ?_
  refine wp_seq ?_
  have HB : w.heap.size ≤ v238.heap.size := T239.size
  refine wp_plan_any [.val (.is (.int .i64 0)), .val (.is (.int .i64 0)), .val (.is (.bool false)), .val (.is (.bool false)), .val (.cz (rootN z.natAbs : Int)), .val (.cz (rootN z.natAbs : Int)), .val (.is (.bool true)), .val (.is (.bool false)), .val (.is (.bool false)), .val (.is (.bool false)), .val (.az 1048576 z), .val (.az 1048576 z), .val (.is (.int .i64 (blen z.natAbs))), .val (.az 1048576 z), .val (.is (.int .i64 (blen z.natAbs))), .val (.is (.bool false)), .val (.is (.bool false))] [] [] w.heap.size (by kernel_rfl) (by kernel_rfl) (by kernel_rfl) trivial HB ?_ ?_
  · exact ⟨fun s v h => does_val rfl rfl (x_move) ((h.same 4 rfl).trans e223),
      fun s v h => does_val rfl rfl (x_move) ((h.same 6 rfl).trans e253),
      fun s v h => does_val rfl rfl (x_neq_int (h.dep 0 rfl) (h.dep 1 rfl)) rfl,
      fun s v h => does_val rfl rfl (x_move) (h.dep 2 rfl),
      fun s v h => does_val rfl (wanted_by (b := false) (want := false) rfl rfl (h.dep 3 rfl)) (x_load_z ((h.same 3 rfl).trans p225) ((h.far q224 b243.lt (by simp)).trans b243)) (f249.mono ((Mono.drew _).trans h.mono)),
      fun s v h => does_val rfl (wanted_by (b := false) (want := false) rfl rfl (h.dep 3 rfl)) (x_load_z ((h.same 5 rfl).trans p255) ((h.far q254 b262.lt (by simp)).trans b262)) (f268.mono ((Mono.drew _).trans h.mono)),
      fun s v h => does_call rfl (wanted_by (b := false) (want := false) rfl rfl (h.dep 3 rfl)) (x_call2 Try.call12) (eq_k (h.dep 4 rfl) (h.dep 5 rfl) rfl),
      fun s v h => does_val rfl (wanted_by (b := false) (want := false) rfl rfl (h.dep 3 rfl)) (x_not (h.dep 6 rfl)) rfl,
      fun s v h => does_val rfl rfl (x_pick (h.dep 3 rfl)) (h.dep 7 rfl),
      fun s v h => does_val rfl rfl (x_move) (h.dep 8 rfl),
      fun s v h => does_val rfl (wanted_by (b := false) (want := false) rfl rfl (h.dep 9 rfl)) (x_load_z ((h.same 1 rfl).trans p208) ((h.far q207 b242.lt (by simp)).trans b242)) (f244.mono ((Mono.drew _).trans h.mono)),
      fun s v h => does_call rfl (wanted_by (b := false) (want := false) rfl rfl (h.dep 9 rfl)) (x_call1 Try.call18) (own_k (h.dep 10 rfl) (by omega)),
      fun s v h => does_call rfl (wanted_by (b := false) (want := false) rfl rfl (h.dep 9 rfl)) (x_call1 Try.call20) (zbits_k (h.dep 11 rfl)),
      fun s v h => does_val rfl (wanted_by (b := false) (want := false) rfl rfl (h.dep 9 rfl)) (x_load_z ((h.same 1 rfl).trans p208) ((h.far q207 b242.lt (by simp)).trans b242)) (f244.mono ((Mono.drew _).trans h.mono)),
      fun s v h => does_call rfl (wanted_by (b := false) (want := false) rfl rfl (h.dep 9 rfl)) (x_call1 Try.call21) (r2bits_k (h.dep 13 rfl)),
      fun s v h => does_val rfl (wanted_by (b := false) (want := false) rfl rfl (h.dep 9 rfl)) (x_neq_int (h.dep 12 rfl) (h.dep 14 rfl)) (by show _ = _; simp),
      fun s v h => does_val rfl rfl (x_pick (h.dep 9 rfl)) (h.dep 15 rfl), trivial⟩
  intro g269 ts v269 hts E269
  simp only [fillL, Nat.reduceAdd, List.setIfInBounds_toArray, List.set_cons_zero, List.set_cons_succ] at hts
  subst hts
  have T270 : Below w.heap.size w v269 := (below_toDrew T239).trans E269.below
  have l271 : q207 < v238.heap.size := b242.lt
  have l272 : q224 < v238.heap.size := b243.lt
  have l273 : q254 < v238.heap.size := b262.lt
  have b274 : Bx v269 q207 24 #[.bool na0, .slice A0 n0 c0] := (E269.far q207 b242.lt (by simp)).trans b242
  have b275 : Bx v269 q224 t230 #[.bool x232, .slice A233 m234 c235] := (E269.far q224 b243.lt (by simp)).trans b243
  have b276 : Bx v269 q254 t261 #[.bool x263, .slice A264 m265 c266] := (E269.far q254 b262.lt (by simp)).trans b262
  have f277 := f244.mono ((Mono.drew _).trans E269.mono)
  have f278 := f245.mono ((Mono.drew _).trans E269.mono)
  have f279 := f246.mono ((Mono.drew _).trans E269.mono)
  have f280 := f247.mono ((Mono.drew _).trans E269.mono)
  have f281 := f248.mono ((Mono.drew _).trans E269.mono)
  have f282 := f249.mono ((Mono.drew _).trans E269.mono)
  have f283 := f250.mono ((Mono.drew _).trans E269.mono)
  have f284 := f251.mono ((Mono.drew _).trans E269.mono)
  have f285 := f268.mono ((Mono.drew _).trans E269.mono)
  have e286 : g269 0 = (.int .i64 0) := E269.facts 0 (by decide)
  have e287 : g269 1 = (.int .i64 0) := E269.facts 1 (by decide)
  have e288 : g269 2 = (.bool false) := E269.facts 2 (by decide)
  have e289 : g269 3 = (.bool false) := E269.facts 3 (by decide)
  have f290 : Cz v269 (g269 4) (rootN z.natAbs : Int) := E269.facts 4 (by decide)
  have f291 : Cz v269 (g269 5) (rootN z.natAbs : Int) := E269.facts 5 (by decide)
  have e292 : g269 6 = (.bool true) := E269.facts 6 (by decide)
  have e293 : g269 7 = (.bool false) := E269.facts 7 (by decide)
  have e294 : g269 8 = (.bool false) := E269.facts 8 (by decide)
  have e295 : g269 9 = (.bool false) := E269.facts 9 (by decide)
  have f296 : Az 1048576 v269 (g269 10) z := E269.facts 10 (by decide)
  have f297 : Az 1048576 v269 (g269 11) z := E269.facts 11 (by decide)
  have e298 : g269 12 = (.int .i64 (blen z.natAbs)) := E269.facts 12 (by decide)
  have f299 : Az 1048576 v269 (g269 13) z := E269.facts 13 (by decide)
  have e300 : g269 14 = (.int .i64 (blen z.natAbs)) := E269.facts 14 (by decide)
  have e301 : g269 15 = (.bool false) := E269.facts 15 (by decide)
  have e302 : g269 16 = (.bool false) := E269.facts 16 (by decide)
  refine then_normal ?_
  refine wp_cond_false e302 ?_
  refine wp_skip ?_
  refine then_normal ?_
  refine wp_seq ?_
  have HB : w.heap.size ≤ v269.heap.size := T270.size
  refine wp_plan_seq [.val (.az 1048576 z), .val (.az 1048576 z), .val (.tup3 (.is (.int .u64 ((z.natAbs / 2 ^ e : Nat) : Int))) (.is (.int .i64 (e : Int))) (.is (.bool b))), .val (.tup3 (.is (.int .u64 ((z.natAbs / 2 ^ e : Nat) : Int))) (.is (.int .i64 (e : Int))) (.is (.bool b))), .val (.is (.int .u64 ((z.natAbs / 2 ^ e : Nat) : Int))), .val (.is (.int .i64 (e : Int))), .val (.is (.bool b)), .val (.is (.int .u64 ((z.natAbs / 2 ^ e : Nat) : Int))), .val (.is (.int .i64 (e : Int))), .val (.is (.bool b))] [] [] w.heap.size (by kernel_rfl) (by kernel_rfl) trivial HB ?_ ?_
  · exact ⟨fun s v h => does_val rfl rfl (x_load_z ((h.same 1 rfl).trans p208) ((h.far q207 b274.lt (by simp)).trans b274)) (f277.mono h.mono),
      fun s v h => does_call rfl rfl (x_call1 Try.call18) (own_k (h.dep 0 rfl) (by omega)),
      fun s v h => does_call rfl rfl (x_call1 Try.call22) (ztop_k (h.dep 1 rfl) (by omega) he hq b hb),
      fun s v h => does_val rfl rfl (x_move) (h.dep 2 rfl),
      fun s v h => by obtain ⟨r0, r1, r2, e, f0, f1, f2⟩ := tup3_at (h.dep 3 rfl); exact does_val rfl rfl (x_ext e rfl) f0,
      fun s v h => by obtain ⟨r0, r1, r2, e, f0, f1, f2⟩ := tup3_at (h.dep 3 rfl); exact does_val rfl rfl (x_ext e rfl) f1,
      fun s v h => by obtain ⟨r0, r1, r2, e, f0, f1, f2⟩ := tup3_at (h.dep 3 rfl); exact does_val rfl rfl (x_ext e rfl) f2,
      fun s v h => does_val rfl rfl (x_assign) (h.dep 4 rfl),
      fun s v h => does_val rfl rfl (x_assign) (h.dep 5 rfl),
      fun s v h => does_val rfl rfl (x_assign) (h.dep 6 rfl), trivial⟩
  intro g303 ts v303 hts E303
  simp only [fillL, Nat.reduceAdd, List.setIfInBounds_toArray, List.set_cons_zero, List.set_cons_succ] at hts
  subst hts
  have T304 : Below w.heap.size w v303 := T270.trans E303.below
  have l305 : q207 < v269.heap.size := b274.lt
  have l306 : q224 < v269.heap.size := b275.lt
  have l307 : q254 < v269.heap.size := b276.lt
  have b308 : Bx v303 q207 24 #[.bool na0, .slice A0 n0 c0] := (E303.far q207 b274.lt (by simp)).trans b274
  have b309 : Bx v303 q224 t230 #[.bool x232, .slice A233 m234 c235] := (E303.far q224 b275.lt (by simp)).trans b275
  have b310 : Bx v303 q254 t261 #[.bool x263, .slice A264 m265 c266] := (E303.far q254 b276.lt (by simp)).trans b276
  have f311 := f277.mono E303.mono
  have f312 := f278.mono E303.mono
  have f313 := f279.mono E303.mono
  have f314 := f280.mono E303.mono
  have f315 := f281.mono E303.mono
  have f316 := f282.mono E303.mono
  have f317 := f283.mono E303.mono
  have f318 := f284.mono E303.mono
  have f319 := f285.mono E303.mono
  have f320 := f290.mono E303.mono
  have f321 := f291.mono E303.mono
  have f322 := f296.mono E303.mono
  have f323 := f297.mono E303.mono
  have f324 := f299.mono E303.mono
  have f325 : Az 1048576 v303 (g303 0) z := E303.facts 0 (by decide)
  have f326 : Az 1048576 v303 (g303 1) z := E303.facts 1 (by decide)
  have e327 : g303 4 = (.int .u64 ((z.natAbs / 2 ^ e : Nat) : Int)) := E303.facts 4 (by decide)
  have e328 : g303 5 = (.int .i64 (e : Int)) := E303.facts 5 (by decide)
  have e329 : g303 6 = (.bool b) := E303.facts 6 (by decide)
  have e330 : g303 7 = (.int .u64 ((z.natAbs / 2 ^ e : Nat) : Int)) := E303.facts 7 (by decide)
  have e331 : g303 8 = (.int .i64 (e : Int)) := E303.facts 8 (by decide)
  have e332 : g303 9 = (.bool b) := E303.facts 9 (by decide)
  refine then_normal ?_
  refine wp_seq ?_
  have HB : w.heap.size ≤ v303.heap.size := T304.size
  refine wp_plan_seq [.val (.az 1048576 z), .val (.tup3 (.is (.int .u64 ((z.natAbs / 2 ^ e : Nat) : Int))) (.is (.int .i64 (e : Int))) (.is (.bool b))), .val (.tup3 (.is (.int .u64 ((z.natAbs / 2 ^ e : Nat) : Int))) (.is (.int .i64 (e : Int))) (.is (.bool b))), .val (.is (.int .u64 ((z.natAbs / 2 ^ e : Nat) : Int))), .val (.is (.int .i64 (e : Int))), .val (.is (.bool b)), .val (.is (.int .u64 ((z.natAbs / 2 ^ e : Nat) : Int))), .val (.is (.int .i64 (e : Int))), .val (.is (.bool b))] [] [] w.heap.size (by kernel_rfl) (by kernel_rfl) trivial HB ?_ ?_
  · exact ⟨fun s v h => does_val rfl rfl (x_load_z ((h.same 1 rfl).trans p208) ((h.far q207 b308.lt (by simp)).trans b308)) (f311.mono h.mono),
      fun s v h => does_call rfl rfl (x_call1 Try.call23) (r2top_b (h.dep 0 rfl) (by omega) he2 dt hq b hb2),
      fun s v h => does_val rfl rfl (x_move) (h.dep 1 rfl),
      fun s v h => by obtain ⟨r0, r1, r2, e, f0, f1, f2⟩ := tup3_at (h.dep 2 rfl); exact does_val rfl rfl (x_ext e rfl) f0,
      fun s v h => by obtain ⟨r0, r1, r2, e, f0, f1, f2⟩ := tup3_at (h.dep 2 rfl); exact does_val rfl rfl (x_ext e rfl) f1,
      fun s v h => by obtain ⟨r0, r1, r2, e, f0, f1, f2⟩ := tup3_at (h.dep 2 rfl); exact does_val rfl rfl (x_ext e rfl) f2,
      fun s v h => does_val rfl rfl (x_assign) (h.dep 3 rfl),
      fun s v h => does_val rfl rfl (x_assign) (h.dep 4 rfl),
      fun s v h => does_val rfl rfl (x_assign) (h.dep 5 rfl), trivial⟩
  intro g333 ts v333 hts E333
  simp only [fillL, Nat.reduceAdd, List.setIfInBounds_toArray, List.set_cons_zero, List.set_cons_succ] at hts
  subst hts
  have T334 : Below w.heap.size w v333 := T304.trans E333.below
  have l335 : q207 < v303.heap.size := b308.lt
  have l336 : q224 < v303.heap.size := b309.lt
  have l337 : q254 < v303.heap.size := b310.lt
  have b338 : Bx v333 q207 24 #[.bool na0, .slice A0 n0 c0] := (E333.far q207 b308.lt (by simp)).trans b308
  have b339 : Bx v333 q224 t230 #[.bool x232, .slice A233 m234 c235] := (E333.far q224 b309.lt (by simp)).trans b309
  have b340 : Bx v333 q254 t261 #[.bool x263, .slice A264 m265 c266] := (E333.far q254 b310.lt (by simp)).trans b310
  have f341 := f311.mono E333.mono
  have f342 := f312.mono E333.mono
  have f343 := f313.mono E333.mono
  have f344 := f314.mono E333.mono
  have f345 := f315.mono E333.mono
  have f346 := f316.mono E333.mono
  have f347 := f317.mono E333.mono
  have f348 := f318.mono E333.mono
  have f349 := f319.mono E333.mono
  have f350 := f320.mono E333.mono
  have f351 := f321.mono E333.mono
  have f352 := f322.mono E333.mono
  have f353 := f323.mono E333.mono
  have f354 := f324.mono E333.mono
  have f355 := f325.mono E333.mono
  have f356 := f326.mono E333.mono
  have f357 : Az 1048576 v333 (g333 0) z := E333.facts 0 (by decide)
  have e358 : g333 3 = (.int .u64 ((z.natAbs / 2 ^ e : Nat) : Int)) := E333.facts 3 (by decide)
  have e359 : g333 4 = (.int .i64 (e : Int)) := E333.facts 4 (by decide)
  have e360 : g333 5 = (.bool b) := E333.facts 5 (by decide)
  have e361 : g333 6 = (.int .u64 ((z.natAbs / 2 ^ e : Nat) : Int)) := E333.facts 6 (by decide)
  have e362 : g333 7 = (.int .i64 (e : Int)) := E333.facts 7 (by decide)
  have e363 : g333 8 = (.bool b) := E333.facts 8 (by decide)
  refine then_normal ?_
  refine wp_seq ?_
  have HB : w.heap.size ≤ v333.heap.size := T334.size
  refine wp_plan_seq [.val (.is (.int .u64 ((z.natAbs / 2 ^ e : Nat) : Int))), .val (.is (.int .u64 ((z.natAbs / 2 ^ e : Nat) : Int))), .val (.is (.bool true)), .val (.is (.bool true)), .val (.is (.int .i64 (e : Int))), .val (.is (.int .i64 (e : Int))), .val (.is (.bool true)), .val (.is (.bool true)), .val (.is (.bool true)), .val (.is (.bool b)), .val (.is (.bool b)), .val (.is (.bool true)), .val (.is (.bool true)), .val (.is (.bool true))] [] [] w.heap.size (by kernel_rfl) (by kernel_rfl) trivial HB ?_ ?_
  · exact ⟨fun s v h => does_val rfl rfl (x_move) ((h.same 7 rfl).trans e330),
      fun s v h => does_val rfl rfl (x_move) ((h.same 10 rfl).trans e361),
      fun s v h => does_val rfl rfl (x_eql_u64 (h.dep 0 rfl) (h.dep 1 rfl)) (by show _ = _; simp),
      fun s v h => does_val rfl rfl (x_move) (h.dep 2 rfl),
      fun s v h => does_val rfl (wanted_by (b := true) (want := true) rfl rfl (h.dep 3 rfl)) (x_move) ((h.same 8 rfl).trans e331),
      fun s v h => does_val rfl (wanted_by (b := true) (want := true) rfl rfl (h.dep 3 rfl)) (x_move) ((h.same 11 rfl).trans e362),
      fun s v h => does_val rfl (wanted_by (b := true) (want := true) rfl rfl (h.dep 3 rfl)) (x_eql_int (h.dep 4 rfl) (h.dep 5 rfl)) (by show _ = _; simp),
      fun s v h => does_val rfl rfl (x_pick (h.dep 3 rfl)) (h.dep 6 rfl),
      fun s v h => does_val rfl rfl (x_move) (h.dep 7 rfl),
      fun s v h => does_val rfl (wanted_by (b := true) (want := true) rfl rfl (h.dep 8 rfl)) (x_move) ((h.same 9 rfl).trans e332),
      fun s v h => does_val rfl (wanted_by (b := true) (want := true) rfl rfl (h.dep 8 rfl)) (x_move) ((h.same 12 rfl).trans e363),
      fun s v h => does_val rfl (wanted_by (b := true) (want := true) rfl rfl (h.dep 8 rfl)) (x_eql_bool (h.dep 9 rfl) (h.dep 10 rfl)) (by show _ = _; simp),
      fun s v h => does_val rfl rfl (x_pick (h.dep 8 rfl)) (h.dep 11 rfl),
      fun s v h => does_val rfl rfl (x_assign) (h.dep 12 rfl), trivial⟩
  intro g364 ts v364 hts E364
  simp only [fillL, Nat.reduceAdd, List.setIfInBounds_toArray, List.set_cons_zero, List.set_cons_succ] at hts
  subst hts
  have T365 : Below w.heap.size w v364 := T334.trans E364.below
  have l366 : q207 < v333.heap.size := b338.lt
  have l367 : q224 < v333.heap.size := b339.lt
  have l368 : q254 < v333.heap.size := b340.lt
  have b369 : Bx v364 q207 24 #[.bool na0, .slice A0 n0 c0] := (E364.far q207 b338.lt (by simp)).trans b338
  have b370 : Bx v364 q224 t230 #[.bool x232, .slice A233 m234 c235] := (E364.far q224 b339.lt (by simp)).trans b339
  have b371 : Bx v364 q254 t261 #[.bool x263, .slice A264 m265 c266] := (E364.far q254 b340.lt (by simp)).trans b340
  have f372 := f341.mono E364.mono
  have f373 := f342.mono E364.mono
  have f374 := f343.mono E364.mono
  have f375 := f344.mono E364.mono
  have f376 := f345.mono E364.mono
  have f377 := f346.mono E364.mono
  have f378 := f347.mono E364.mono
  have f379 := f348.mono E364.mono
  have f380 := f349.mono E364.mono
  have f381 := f350.mono E364.mono
  have f382 := f351.mono E364.mono
  have f383 := f352.mono E364.mono
  have f384 := f353.mono E364.mono
  have f385 := f354.mono E364.mono
  have f386 := f355.mono E364.mono
  have f387 := f356.mono E364.mono
  have f388 := f357.mono E364.mono
  have e389 : g364 0 = (.int .u64 ((z.natAbs / 2 ^ e : Nat) : Int)) := E364.facts 0 (by decide)
  have e390 : g364 1 = (.int .u64 ((z.natAbs / 2 ^ e : Nat) : Int)) := E364.facts 1 (by decide)
  have e391 : g364 2 = (.bool true) := E364.facts 2 (by decide)
  have e392 : g364 3 = (.bool true) := E364.facts 3 (by decide)
  have e393 : g364 4 = (.int .i64 (e : Int)) := E364.facts 4 (by decide)
  have e394 : g364 5 = (.int .i64 (e : Int)) := E364.facts 5 (by decide)
  have e395 : g364 6 = (.bool true) := E364.facts 6 (by decide)
  have e396 : g364 7 = (.bool true) := E364.facts 7 (by decide)
  have e397 : g364 8 = (.bool true) := E364.facts 8 (by decide)
  have e398 : g364 9 = (.bool b) := E364.facts 9 (by decide)
  have e399 : g364 10 = (.bool b) := E364.facts 10 (by decide)
  have e400 : g364 11 = (.bool true) := E364.facts 11 (by decide)
  have e401 : g364 12 = (.bool true) := E364.facts 12 (by decide)
  have e402 : g364 13 = (.bool true) := E364.facts 13 (by decide)
  refine then_normal ?_
  refine wp_ret ?_
  exact bodyPost_ret (results_tmp (t := 2) rfl _ _ _) rfl ⟨_, rfl, e402, T365⟩

set_option maxRecDepth 8000 in
theorem zt_ba {w : World} {x : Value} {z : Int} (h0 : Az 1048576 w x z) (ds : decide (z.sign < 0) = true) {e : Nat} (he : max 0 ((blen z.natAbs : Int) - 53) = (e : Int)) (he2 : (blen z.natAbs : Int) - 53 = (e : Int)) (dt : decide (53 < (blen z.natAbs : Int)) = true) (hq : Hid (z.natAbs / 2 ^ e < 9007199254740992)) (b : Bool) (hb : (((digs (z.natAbs % 2 ^ e)).length : Int) == 0) = b) (hb2 : ((((z.natAbs % 2 ^ e : Nat) : Int)).sign == 0) = b)  : Calls Try.prog 4 #[x] w (Ret (.is (.bool true)) w) := by
  have la0 := h0.len
  obtain ⟨na0, A0, n0, c0, M0, rfl, hm0, hz0⟩ := h0.parts
  have T0 : Below w.heap.size w w := Below.refl _ _
  go_enter Try.func4, Try.ntmps4
  refine wp_seq ?_
  have HB : w.heap.size ≤ w.heap.size := T0.size
  refine wp_plan_seq [.new 2 (some (24, #[.bool na0, .slice A0 n0 c0])), .val (.is (.bool false))] [] [] w.heap.size (by kernel_rfl) (by kernel_rfl) trivial HB ?_ ?_
  · exact ⟨fun s v h => does_new rfl rfl (x_box_z (h.same 0 rfl)) (okz _ _ _ _) rfl (.inr rfl),
      fun s v h => does_val rfl rfl (x_assign) rfl, trivial⟩
  intro g403 ts v403 hts E403
  simp only [fillL, Nat.reduceAdd, List.setIfInBounds_toArray, List.set_cons_zero, List.set_cons_succ] at hts
  subst hts
  have T404 : Below w.heap.size w v403 := T0.trans E403.below
  have f405 := h0.mono E403.mono
  have f406 := hm0.mono E403.mono
  have e407 : g403 1 = (.bool false) := E403.facts 1 (by decide)
  obtain ⟨q408, p409, l410, o411, b412⟩ : ∃ q, g403 0 = .pointer (some ⟨q, 0, none⟩) ∧ w.heap.size ≤ q ∧ OkB v403 q 2 ∧ Bx v403 q 24 #[.bool na0, .slice A0 n0 c0] := E403.facts 0 (by decide)
  have h413 : w.heap.size ≤ q408 := Nat.le_trans HB l410
  refine then_normal ?_
  refine wp_seq ?_
  have HB : w.heap.size ≤ v403.heap.size := T404.size
  refine wp_plan_seq [.val (.az 1048576 z), .val (.az 1048576 z), .val (.tup2 (.cz 0) (.is (.int .i64 21))), .val (.tup2 (.cz 0) (.is (.int .i64 21))), .val (.cz 0), .val (.is (.int .i64 21)), .new 2 none, .put 3 17, .val (.is (.int .i64 21))] [] [] w.heap.size (by kernel_rfl) (by kernel_rfl) trivial HB ?_ ?_
  · exact ⟨fun s v h => does_val rfl rfl (x_load_z ((h.same 1 rfl).trans p409) ((h.far q408 b412.lt (by simp)).trans b412)) (f405.mono h.mono),
      fun s v h => does_call rfl rfl (x_call1 Try.call18) (own_k (h.dep 0 rfl) (by omega)),
      fun s v h => does_call rfl rfl (x_call1 Try.call17) (zroot_b (h.dep 1 rfl) ds),
      fun s v h => does_val rfl rfl (x_move) (h.dep 2 rfl),
      fun s v h => by obtain ⟨r0, r1, e, f0, f1⟩ := tup2_at (h.dep 3 rfl); exact does_val rfl rfl (x_ext e rfl) f0,
      fun s v h => by obtain ⟨r0, r1, e, f0, f1⟩ := tup2_at (h.dep 3 rfl); exact does_val rfl rfl (x_ext e rfl) f1,
      fun s v h => does_new rfl rfl x_alloc_z (okz _ _ _ _) rfl (.inl rfl),
      fun s v h => by obtain ⟨q, e1, e2, e3⟩ := new_at (h.dep 6 rfl); exact does_put_z rfl rfl e1 (h.dep 4 rfl).shape e3 (Nat.le_trans HB e2),
      fun s v h => does_val rfl rfl (x_assign) (h.dep 5 rfl), trivial⟩
  intro g414 ts v414 hts E414
  simp only [fillL, Nat.reduceAdd, List.setIfInBounds_toArray, List.set_cons_zero, List.set_cons_succ] at hts
  subst hts
  have T415 : Below w.heap.size w v414 := T404.trans E414.below
  have l416 : q408 < v403.heap.size := b412.lt
  have b417 : Bx v414 q408 24 #[.bool na0, .slice A0 n0 c0] := (E414.far q408 b412.lt (by simp)).trans b412
  have f418 := f405.mono E414.mono
  have f419 := f406.mono E414.mono
  have f420 : Az 1048576 v414 (g414 0) z := E414.facts 0 (by decide)
  have f421 : Az 1048576 v414 (g414 1) z := E414.facts 1 (by decide)
  have f422 : Cz v414 (g414 4) 0 := E414.facts 4 (by decide)
  have e423 : g414 5 = (.int .i64 21) := E414.facts 5 (by decide)
  have e424 : g414 8 = (.int .i64 21) := E414.facts 8 (by decide)
  obtain ⟨q425, p426, l427, o428⟩ : ∃ q, g414 6 = .pointer (some ⟨q, 0, none⟩) ∧ v403.heap.size ≤ q ∧ OkB v414 q 2 := E414.facts 6 (by decide)
  have h429 : w.heap.size ≤ q425 := Nat.le_trans HB l427
  have n430 : q408 ≠ q425 := by omega
  obtain ⟨t431, x433, A434, m435, c436, e437, b432⟩ := put_info (E414.facts 7 (by decide)) p426 f422.shape
  have f438 : Cz v414 (.agg #[.bool x433, .slice A434 m435 c436]) 0 := f422.at e437.symm
  refine then_normal ?_
  refine wp_seq ?_
  have HB : w.heap.size ≤ v414.heap.size := T415.size
  refine wp_plan_seq [.val (.az 1048576 z), .val (.tup2 (.cz 0) (.is (.int .i64 21))), .val (.tup2 (.cz 0) (.is (.int .i64 21))), .val (.cz 0), .val (.is (.int .i64 21)), .new 2 none, .put 5 22, .val (.is (.int .i64 21))] [] [] w.heap.size (by kernel_rfl) (by kernel_rfl) trivial HB ?_ ?_
  · exact ⟨fun s v h => does_val rfl rfl (x_load_z ((h.same 1 rfl).trans p409) ((h.far q408 b417.lt (by simp)).trans b417)) (f418.mono h.mono),
      fun s v h => does_call rfl rfl (x_call1 Try.call19) (r2root_b (h.dep 0 rfl) (by omega) ds),
      fun s v h => does_val rfl rfl (x_move) (h.dep 1 rfl),
      fun s v h => by obtain ⟨r0, r1, e, f0, f1⟩ := tup2_at (h.dep 2 rfl); exact does_val rfl rfl (x_ext e rfl) f0,
      fun s v h => by obtain ⟨r0, r1, e, f0, f1⟩ := tup2_at (h.dep 2 rfl); exact does_val rfl rfl (x_ext e rfl) f1,
      fun s v h => does_new rfl rfl x_alloc_z (okz _ _ _ _) rfl (.inl rfl),
      fun s v h => by obtain ⟨q, e1, e2, e3⟩ := new_at (h.dep 5 rfl); exact does_put_z rfl rfl e1 (h.dep 3 rfl).shape e3 (Nat.le_trans HB e2),
      fun s v h => does_val rfl rfl (x_assign) (h.dep 4 rfl), trivial⟩
  intro g439 ts v439 hts E439
  simp only [fillL, Nat.reduceAdd, List.setIfInBounds_toArray, List.set_cons_zero, List.set_cons_succ] at hts
  subst hts
  have T440 : Below w.heap.size w v439 := T415.trans E439.below
  have l441 : q408 < v414.heap.size := b417.lt
  have l442 : q425 < v414.heap.size := b432.lt
  have b443 : Bx v439 q408 24 #[.bool na0, .slice A0 n0 c0] := (E439.far q408 b417.lt (by simp)).trans b417
  have b444 : Bx v439 q425 t431 #[.bool x433, .slice A434 m435 c436] := (E439.far q425 b432.lt (by simp)).trans b432
  have f445 := f418.mono E439.mono
  have f446 := f419.mono E439.mono
  have f447 := f420.mono E439.mono
  have f448 := f421.mono E439.mono
  have f449 := f422.mono E439.mono
  have f450 := f438.mono E439.mono
  have f451 : Az 1048576 v439 (g439 0) z := E439.facts 0 (by decide)
  have f452 : Cz v439 (g439 3) 0 := E439.facts 3 (by decide)
  have e453 : g439 4 = (.int .i64 21) := E439.facts 4 (by decide)
  have e454 : g439 7 = (.int .i64 21) := E439.facts 7 (by decide)
  obtain ⟨q455, p456, l457, o458⟩ : ∃ q, g439 5 = .pointer (some ⟨q, 0, none⟩) ∧ v414.heap.size ≤ q ∧ OkB v439 q 2 := E439.facts 5 (by decide)
  have h459 : w.heap.size ≤ q455 := Nat.le_trans HB l457
  have n460 : q408 ≠ q455 := by omega
  have n461 : q425 ≠ q455 := by omega
  obtain ⟨t462, x464, A465, m466, c467, e468, b463⟩ := put_info (E439.facts 6 (by decide)) p456 f452.shape
  have f469 : Cz v439 (.agg #[.bool x464, .slice A465 m466 c467]) 0 := f452.at e468.symm
  refine then_normal ?_
  refine wp_seq ?_
  refine wp_seq ?_
  have HB : w.heap.size ≤ v439.heap.size := T440.size
  refine wp_plan_any [.val (.is (.int .i64 21)), .val (.is (.int .i64 21)), .val (.is (.bool false)), .val (.is (.bool false)), .val (.cz 0), .val (.cz 0), .val (.is (.bool true)), .val (.is (.bool false)), .val (.is (.bool false)), .val (.is (.bool false)), .val (.az 1048576 z), .val (.az 1048576 z), .val (.is (.int .i64 (blen z.natAbs))), .val (.az 1048576 z), .val (.is (.int .i64 (blen z.natAbs))), .val (.is (.bool false)), .val (.is (.bool false))] [] [] w.heap.size (by kernel_rfl) (by kernel_rfl) (by kernel_rfl) trivial HB ?_ ?_
  · exact ⟨fun s v h => does_val rfl rfl (x_move) ((h.same 4 rfl).trans e424),
      fun s v h => does_val rfl rfl (x_move) ((h.same 6 rfl).trans e454),
      fun s v h => does_val rfl rfl (x_neq_int (h.dep 0 rfl) (h.dep 1 rfl)) rfl,
      fun s v h => does_val rfl rfl (x_move) (h.dep 2 rfl),
      fun s v h => does_val rfl (wanted_by (b := false) (want := false) rfl rfl (h.dep 3 rfl)) (x_load_z ((h.same 3 rfl).trans p426) ((h.far q425 b444.lt (by simp)).trans b444)) (f450.mono ((Mono.drew _).trans h.mono)),
      fun s v h => does_val rfl (wanted_by (b := false) (want := false) rfl rfl (h.dep 3 rfl)) (x_load_z ((h.same 5 rfl).trans p456) ((h.far q455 b463.lt (by simp)).trans b463)) (f469.mono ((Mono.drew _).trans h.mono)),
      fun s v h => does_call rfl (wanted_by (b := false) (want := false) rfl rfl (h.dep 3 rfl)) (x_call2 Try.call12) (eq_k (h.dep 4 rfl) (h.dep 5 rfl) rfl),
      fun s v h => does_val rfl (wanted_by (b := false) (want := false) rfl rfl (h.dep 3 rfl)) (x_not (h.dep 6 rfl)) rfl,
      fun s v h => does_val rfl rfl (x_pick (h.dep 3 rfl)) (h.dep 7 rfl),
      fun s v h => does_val rfl rfl (x_move) (h.dep 8 rfl),
      fun s v h => does_val rfl (wanted_by (b := false) (want := false) rfl rfl (h.dep 9 rfl)) (x_load_z ((h.same 1 rfl).trans p409) ((h.far q408 b443.lt (by simp)).trans b443)) (f445.mono ((Mono.drew _).trans h.mono)),
      fun s v h => does_call rfl (wanted_by (b := false) (want := false) rfl rfl (h.dep 9 rfl)) (x_call1 Try.call18) (own_k (h.dep 10 rfl) (by omega)),
      fun s v h => does_call rfl (wanted_by (b := false) (want := false) rfl rfl (h.dep 9 rfl)) (x_call1 Try.call20) (zbits_k (h.dep 11 rfl)),
      fun s v h => does_val rfl (wanted_by (b := false) (want := false) rfl rfl (h.dep 9 rfl)) (x_load_z ((h.same 1 rfl).trans p409) ((h.far q408 b443.lt (by simp)).trans b443)) (f445.mono ((Mono.drew _).trans h.mono)),
      fun s v h => does_call rfl (wanted_by (b := false) (want := false) rfl rfl (h.dep 9 rfl)) (x_call1 Try.call21) (r2bits_k (h.dep 13 rfl)),
      fun s v h => does_val rfl (wanted_by (b := false) (want := false) rfl rfl (h.dep 9 rfl)) (x_neq_int (h.dep 12 rfl) (h.dep 14 rfl)) (by show _ = _; simp),
      fun s v h => does_val rfl rfl (x_pick (h.dep 9 rfl)) (h.dep 15 rfl), trivial⟩
  intro g470 ts v470 hts E470
  simp only [fillL, Nat.reduceAdd, List.setIfInBounds_toArray, List.set_cons_zero, List.set_cons_succ] at hts
  subst hts
  have T471 : Below w.heap.size w v470 := (below_toDrew T440).trans E470.below
  have l472 : q408 < v439.heap.size := b443.lt
  have l473 : q425 < v439.heap.size := b444.lt
  have l474 : q455 < v439.heap.size := b463.lt
  have b475 : Bx v470 q408 24 #[.bool na0, .slice A0 n0 c0] := (E470.far q408 b443.lt (by simp)).trans b443
  have b476 : Bx v470 q425 t431 #[.bool x433, .slice A434 m435 c436] := (E470.far q425 b444.lt (by simp)).trans b444
  have b477 : Bx v470 q455 t462 #[.bool x464, .slice A465 m466 c467] := (E470.far q455 b463.lt (by simp)).trans b463
  have f478 := f445.mono ((Mono.drew _).trans E470.mono)
  have f479 := f446.mono ((Mono.drew _).trans E470.mono)
  have f480 := f447.mono ((Mono.drew _).trans E470.mono)
  have f481 := f448.mono ((Mono.drew _).trans E470.mono)
  have f482 := f449.mono ((Mono.drew _).trans E470.mono)
  have f483 := f450.mono ((Mono.drew _).trans E470.mono)
  have f484 := f451.mono ((Mono.drew _).trans E470.mono)
  have f485 := f452.mono ((Mono.drew _).trans E470.mono)
  have f486 := f469.mono ((Mono.drew _).trans E470.mono)
  have e487 : g470 0 = (.int .i64 21) := E470.facts 0 (by decide)
  have e488 : g470 1 = (.int .i64 21) := E470.facts 1 (by decide)
  have e489 : g470 2 = (.bool false) := E470.facts 2 (by decide)
  have e490 : g470 3 = (.bool false) := E470.facts 3 (by decide)
  have f491 : Cz v470 (g470 4) 0 := E470.facts 4 (by decide)
  have f492 : Cz v470 (g470 5) 0 := E470.facts 5 (by decide)
  have e493 : g470 6 = (.bool true) := E470.facts 6 (by decide)
  have e494 : g470 7 = (.bool false) := E470.facts 7 (by decide)
  have e495 : g470 8 = (.bool false) := E470.facts 8 (by decide)
  have e496 : g470 9 = (.bool false) := E470.facts 9 (by decide)
  have f497 : Az 1048576 v470 (g470 10) z := E470.facts 10 (by decide)
  have f498 : Az 1048576 v470 (g470 11) z := E470.facts 11 (by decide)
  have e499 : g470 12 = (.int .i64 (blen z.natAbs)) := E470.facts 12 (by decide)
  have f500 : Az 1048576 v470 (g470 13) z := E470.facts 13 (by decide)
  have e501 : g470 14 = (.int .i64 (blen z.natAbs)) := E470.facts 14 (by decide)
  have e502 : g470 15 = (.bool false) := E470.facts 15 (by decide)
  have e503 : g470 16 = (.bool false) := E470.facts 16 (by decide)
  refine then_normal ?_
  refine wp_cond_false e503 ?_
  refine wp_skip ?_
  refine then_normal ?_
  refine wp_seq ?_
  have HB : w.heap.size ≤ v470.heap.size := T471.size
  refine wp_plan_seq [.val (.az 1048576 z), .val (.az 1048576 z), .val (.tup3 (.is (.int .u64 ((z.natAbs / 2 ^ e : Nat) : Int))) (.is (.int .i64 (e : Int))) (.is (.bool b))), .val (.tup3 (.is (.int .u64 ((z.natAbs / 2 ^ e : Nat) : Int))) (.is (.int .i64 (e : Int))) (.is (.bool b))), .val (.is (.int .u64 ((z.natAbs / 2 ^ e : Nat) : Int))), .val (.is (.int .i64 (e : Int))), .val (.is (.bool b)), .val (.is (.int .u64 ((z.natAbs / 2 ^ e : Nat) : Int))), .val (.is (.int .i64 (e : Int))), .val (.is (.bool b))] [] [] w.heap.size (by kernel_rfl) (by kernel_rfl) trivial HB ?_ ?_
  · exact ⟨fun s v h => does_val rfl rfl (x_load_z ((h.same 1 rfl).trans p409) ((h.far q408 b475.lt (by simp)).trans b475)) (f478.mono h.mono),
      fun s v h => does_call rfl rfl (x_call1 Try.call18) (own_k (h.dep 0 rfl) (by omega)),
      fun s v h => does_call rfl rfl (x_call1 Try.call22) (ztop_k (h.dep 1 rfl) (by omega) he hq b hb),
      fun s v h => does_val rfl rfl (x_move) (h.dep 2 rfl),
      fun s v h => by obtain ⟨r0, r1, r2, e, f0, f1, f2⟩ := tup3_at (h.dep 3 rfl); exact does_val rfl rfl (x_ext e rfl) f0,
      fun s v h => by obtain ⟨r0, r1, r2, e, f0, f1, f2⟩ := tup3_at (h.dep 3 rfl); exact does_val rfl rfl (x_ext e rfl) f1,
      fun s v h => by obtain ⟨r0, r1, r2, e, f0, f1, f2⟩ := tup3_at (h.dep 3 rfl); exact does_val rfl rfl (x_ext e rfl) f2,
      fun s v h => does_val rfl rfl (x_assign) (h.dep 4 rfl),
      fun s v h => does_val rfl rfl (x_assign) (h.dep 5 rfl),
      fun s v h => does_val rfl rfl (x_assign) (h.dep 6 rfl), trivial⟩
  intro g504 ts v504 hts E504
  simp only [fillL, Nat.reduceAdd, List.setIfInBounds_toArray, List.set_cons_zero, List.set_cons_succ] at hts
  subst hts
  have T505 : Below w.heap.size w v504 := T471.trans E504.below
  have l506 : q408 < v470.heap.size := b475.lt
  have l507 : q425 < v470.heap.size := b476.lt
  have l508 : q455 < v470.heap.size := b477.lt
  have b509 : Bx v504 q408 24 #[.bool na0, .slice A0 n0 c0] := (E504.far q408 b475.lt (by simp)).trans b475
  have b510 : Bx v504 q425 t431 #[.bool x433, .slice A434 m435 c436] := (E504.far q425 b476.lt (by simp)).trans b476
  have b511 : Bx v504 q455 t462 #[.bool x464, .slice A465 m466 c467] := (E504.far q455 b477.lt (by simp)).trans b477
  have f512 := f478.mono E504.mono
  have f513 := f479.mono E504.mono
  have f514 := f480.mono E504.mono
  have f515 := f481.mono E504.mono
  have f516 := f482.mono E504.mono
  have f517 := f483.mono E504.mono
  have f518 := f484.mono E504.mono
  have f519 := f485.mono E504.mono
  have f520 := f486.mono E504.mono
  have f521 := f491.mono E504.mono
  have f522 := f492.mono E504.mono
  have f523 := f497.mono E504.mono
  have f524 := f498.mono E504.mono
  have f525 := f500.mono E504.mono
  have f526 : Az 1048576 v504 (g504 0) z := E504.facts 0 (by decide)
  have f527 : Az 1048576 v504 (g504 1) z := E504.facts 1 (by decide)
  have e528 : g504 4 = (.int .u64 ((z.natAbs / 2 ^ e : Nat) : Int)) := E504.facts 4 (by decide)
  have e529 : g504 5 = (.int .i64 (e : Int)) := E504.facts 5 (by decide)
  have e530 : g504 6 = (.bool b) := E504.facts 6 (by decide)
  have e531 : g504 7 = (.int .u64 ((z.natAbs / 2 ^ e : Nat) : Int)) := E504.facts 7 (by decide)
  have e532 : g504 8 = (.int .i64 (e : Int)) := E504.facts 8 (by decide)
  have e533 : g504 9 = (.bool b) := E504.facts 9 (by decide)
  refine then_normal ?_
  refine wp_seq ?_
  have HB : w.heap.size ≤ v504.heap.size := T505.size
  refine wp_plan_seq [.val (.az 1048576 z), .val (.tup3 (.is (.int .u64 ((z.natAbs / 2 ^ e : Nat) : Int))) (.is (.int .i64 (e : Int))) (.is (.bool b))), .val (.tup3 (.is (.int .u64 ((z.natAbs / 2 ^ e : Nat) : Int))) (.is (.int .i64 (e : Int))) (.is (.bool b))), .val (.is (.int .u64 ((z.natAbs / 2 ^ e : Nat) : Int))), .val (.is (.int .i64 (e : Int))), .val (.is (.bool b)), .val (.is (.int .u64 ((z.natAbs / 2 ^ e : Nat) : Int))), .val (.is (.int .i64 (e : Int))), .val (.is (.bool b))] [] [] w.heap.size (by kernel_rfl) (by kernel_rfl) trivial HB ?_ ?_
  · exact ⟨fun s v h => does_val rfl rfl (x_load_z ((h.same 1 rfl).trans p409) ((h.far q408 b509.lt (by simp)).trans b509)) (f512.mono h.mono),
      fun s v h => does_call rfl rfl (x_call1 Try.call23) (r2top_a (h.dep 0 rfl) (by omega) he2 dt hq b hb2),
      fun s v h => does_val rfl rfl (x_move) (h.dep 1 rfl),
      fun s v h => by obtain ⟨r0, r1, r2, e, f0, f1, f2⟩ := tup3_at (h.dep 2 rfl); exact does_val rfl rfl (x_ext e rfl) f0,
      fun s v h => by obtain ⟨r0, r1, r2, e, f0, f1, f2⟩ := tup3_at (h.dep 2 rfl); exact does_val rfl rfl (x_ext e rfl) f1,
      fun s v h => by obtain ⟨r0, r1, r2, e, f0, f1, f2⟩ := tup3_at (h.dep 2 rfl); exact does_val rfl rfl (x_ext e rfl) f2,
      fun s v h => does_val rfl rfl (x_assign) (h.dep 3 rfl),
      fun s v h => does_val rfl rfl (x_assign) (h.dep 4 rfl),
      fun s v h => does_val rfl rfl (x_assign) (h.dep 5 rfl), trivial⟩
  intro g534 ts v534 hts E534
  simp only [fillL, Nat.reduceAdd, List.setIfInBounds_toArray, List.set_cons_zero, List.set_cons_succ] at hts
  subst hts
  have T535 : Below w.heap.size w v534 := T505.trans E534.below
  have l536 : q408 < v504.heap.size := b509.lt
  have l537 : q425 < v504.heap.size := b510.lt
  have l538 : q455 < v504.heap.size := b511.lt
  have b539 : Bx v534 q408 24 #[.bool na0, .slice A0 n0 c0] := (E534.far q408 b509.lt (by simp)).trans b509
  have b540 : Bx v534 q425 t431 #[.bool x433, .slice A434 m435 c436] := (E534.far q425 b510.lt (by simp)).trans b510
  have b541 : Bx v534 q455 t462 #[.bool x464, .slice A465 m466 c467] := (E534.far q455 b511.lt (by simp)).trans b511
  have f542 := f512.mono E534.mono
  have f543 := f513.mono E534.mono
  have f544 := f514.mono E534.mono
  have f545 := f515.mono E534.mono
  have f546 := f516.mono E534.mono
  have f547 := f517.mono E534.mono
  have f548 := f518.mono E534.mono
  have f549 := f519.mono E534.mono
  have f550 := f520.mono E534.mono
  have f551 := f521.mono E534.mono
  have f552 := f522.mono E534.mono
  have f553 := f523.mono E534.mono
  have f554 := f524.mono E534.mono
  have f555 := f525.mono E534.mono
  have f556 := f526.mono E534.mono
  have f557 := f527.mono E534.mono
  have f558 : Az 1048576 v534 (g534 0) z := E534.facts 0 (by decide)
  have e559 : g534 3 = (.int .u64 ((z.natAbs / 2 ^ e : Nat) : Int)) := E534.facts 3 (by decide)
  have e560 : g534 4 = (.int .i64 (e : Int)) := E534.facts 4 (by decide)
  have e561 : g534 5 = (.bool b) := E534.facts 5 (by decide)
  have e562 : g534 6 = (.int .u64 ((z.natAbs / 2 ^ e : Nat) : Int)) := E534.facts 6 (by decide)
  have e563 : g534 7 = (.int .i64 (e : Int)) := E534.facts 7 (by decide)
  have e564 : g534 8 = (.bool b) := E534.facts 8 (by decide)
  refine then_normal ?_
  refine wp_seq ?_
  have HB : w.heap.size ≤ v534.heap.size := T535.size
  refine wp_plan_seq [.val (.is (.int .u64 ((z.natAbs / 2 ^ e : Nat) : Int))), .val (.is (.int .u64 ((z.natAbs / 2 ^ e : Nat) : Int))), .val (.is (.bool true)), .val (.is (.bool true)), .val (.is (.int .i64 (e : Int))), .val (.is (.int .i64 (e : Int))), .val (.is (.bool true)), .val (.is (.bool true)), .val (.is (.bool true)), .val (.is (.bool b)), .val (.is (.bool b)), .val (.is (.bool true)), .val (.is (.bool true)), .val (.is (.bool true))] [] [] w.heap.size (by kernel_rfl) (by kernel_rfl) trivial HB ?_ ?_
  · exact ⟨fun s v h => does_val rfl rfl (x_move) ((h.same 7 rfl).trans e531),
      fun s v h => does_val rfl rfl (x_move) ((h.same 10 rfl).trans e562),
      fun s v h => does_val rfl rfl (x_eql_u64 (h.dep 0 rfl) (h.dep 1 rfl)) (by show _ = _; simp),
      fun s v h => does_val rfl rfl (x_move) (h.dep 2 rfl),
      fun s v h => does_val rfl (wanted_by (b := true) (want := true) rfl rfl (h.dep 3 rfl)) (x_move) ((h.same 8 rfl).trans e532),
      fun s v h => does_val rfl (wanted_by (b := true) (want := true) rfl rfl (h.dep 3 rfl)) (x_move) ((h.same 11 rfl).trans e563),
      fun s v h => does_val rfl (wanted_by (b := true) (want := true) rfl rfl (h.dep 3 rfl)) (x_eql_int (h.dep 4 rfl) (h.dep 5 rfl)) (by show _ = _; simp),
      fun s v h => does_val rfl rfl (x_pick (h.dep 3 rfl)) (h.dep 6 rfl),
      fun s v h => does_val rfl rfl (x_move) (h.dep 7 rfl),
      fun s v h => does_val rfl (wanted_by (b := true) (want := true) rfl rfl (h.dep 8 rfl)) (x_move) ((h.same 9 rfl).trans e533),
      fun s v h => does_val rfl (wanted_by (b := true) (want := true) rfl rfl (h.dep 8 rfl)) (x_move) ((h.same 12 rfl).trans e564),
      fun s v h => does_val rfl (wanted_by (b := true) (want := true) rfl rfl (h.dep 8 rfl)) (x_eql_bool (h.dep 9 rfl) (h.dep 10 rfl)) (by show _ = _; simp),
      fun s v h => does_val rfl rfl (x_pick (h.dep 8 rfl)) (h.dep 11 rfl),
      fun s v h => does_val rfl rfl (x_assign) (h.dep 12 rfl), trivial⟩
  intro g565 ts v565 hts E565
  simp only [fillL, Nat.reduceAdd, List.setIfInBounds_toArray, List.set_cons_zero, List.set_cons_succ] at hts
  subst hts
  have T566 : Below w.heap.size w v565 := T535.trans E565.below
  have l567 : q408 < v534.heap.size := b539.lt
  have l568 : q425 < v534.heap.size := b540.lt
  have l569 : q455 < v534.heap.size := b541.lt
  have b570 : Bx v565 q408 24 #[.bool na0, .slice A0 n0 c0] := (E565.far q408 b539.lt (by simp)).trans b539
  have b571 : Bx v565 q425 t431 #[.bool x433, .slice A434 m435 c436] := (E565.far q425 b540.lt (by simp)).trans b540
  have b572 : Bx v565 q455 t462 #[.bool x464, .slice A465 m466 c467] := (E565.far q455 b541.lt (by simp)).trans b541
  have f573 := f542.mono E565.mono
  have f574 := f543.mono E565.mono
  have f575 := f544.mono E565.mono
  have f576 := f545.mono E565.mono
  have f577 := f546.mono E565.mono
  have f578 := f547.mono E565.mono
  have f579 := f548.mono E565.mono
  have f580 := f549.mono E565.mono
  have f581 := f550.mono E565.mono
  have f582 := f551.mono E565.mono
  have f583 := f552.mono E565.mono
  have f584 := f553.mono E565.mono
  have f585 := f554.mono E565.mono
  have f586 := f555.mono E565.mono
  have f587 := f556.mono E565.mono
  have f588 := f557.mono E565.mono
  have f589 := f558.mono E565.mono
  have e590 : g565 0 = (.int .u64 ((z.natAbs / 2 ^ e : Nat) : Int)) := E565.facts 0 (by decide)
  have e591 : g565 1 = (.int .u64 ((z.natAbs / 2 ^ e : Nat) : Int)) := E565.facts 1 (by decide)
  have e592 : g565 2 = (.bool true) := E565.facts 2 (by decide)
  have e593 : g565 3 = (.bool true) := E565.facts 3 (by decide)
  have e594 : g565 4 = (.int .i64 (e : Int)) := E565.facts 4 (by decide)
  have e595 : g565 5 = (.int .i64 (e : Int)) := E565.facts 5 (by decide)
  have e596 : g565 6 = (.bool true) := E565.facts 6 (by decide)
  have e597 : g565 7 = (.bool true) := E565.facts 7 (by decide)
  have e598 : g565 8 = (.bool true) := E565.facts 8 (by decide)
  have e599 : g565 9 = (.bool b) := E565.facts 9 (by decide)
  have e600 : g565 10 = (.bool b) := E565.facts 10 (by decide)
  have e601 : g565 11 = (.bool true) := E565.facts 11 (by decide)
  have e602 : g565 12 = (.bool true) := E565.facts 12 (by decide)
  have e603 : g565 13 = (.bool true) := E565.facts 13 (by decide)
  refine then_normal ?_
  refine wp_ret ?_
  exact bodyPost_ret (results_tmp (t := 2) rfl _ _ _) rfl ⟨_, rfl, e603, T566⟩

set_option maxRecDepth 8000 in
theorem zt_bb {w : World} {x : Value} {z : Int} (h0 : Az 1048576 w x z) (ds : decide (z.sign < 0) = true) {e : Nat} (he : max 0 ((blen z.natAbs : Int) - 53) = (e : Int)) (he2 : e = 0) (dt : decide (53 < (blen z.natAbs : Int)) = false) (hq : Hid (z.natAbs / 2 ^ e < 9007199254740992)) (b : Bool) (hb : (((digs (z.natAbs % 2 ^ e)).length : Int) == 0) = b) (hb2 : ((((z.natAbs % 2 ^ e : Nat) : Int)).sign == 0) = b)  : Calls Try.prog 4 #[x] w (Ret (.is (.bool true)) w) := by
  have la0 := h0.len
  obtain ⟨na0, A0, n0, c0, M0, rfl, hm0, hz0⟩ := h0.parts
  have T0 : Below w.heap.size w w := Below.refl _ _
  go_enter Try.func4, Try.ntmps4
  refine wp_seq ?_
  have HB : w.heap.size ≤ w.heap.size := T0.size
  refine wp_plan_seq [.new 2 (some (24, #[.bool na0, .slice A0 n0 c0])), .val (.is (.bool false))] [] [] w.heap.size (by kernel_rfl) (by kernel_rfl) trivial HB ?_ ?_
  · exact ⟨fun s v h => does_new rfl rfl (x_box_z (h.same 0 rfl)) (okz _ _ _ _) rfl (.inr rfl),
      fun s v h => does_val rfl rfl (x_assign) rfl, trivial⟩
  intro g604 ts v604 hts E604
  simp only [fillL, Nat.reduceAdd, List.setIfInBounds_toArray, List.set_cons_zero, List.set_cons_succ] at hts
  subst hts
  have T605 : Below w.heap.size w v604 := T0.trans E604.below
  have f606 := h0.mono E604.mono
  have f607 := hm0.mono E604.mono
  have e608 : g604 1 = (.bool false) := E604.facts 1 (by decide)
  obtain ⟨q609, p610, l611, o612, b613⟩ : ∃ q, g604 0 = .pointer (some ⟨q, 0, none⟩) ∧ w.heap.size ≤ q ∧ OkB v604 q 2 ∧ Bx v604 q 24 #[.bool na0, .slice A0 n0 c0] := E604.facts 0 (by decide)
  have h614 : w.heap.size ≤ q609 := Nat.le_trans HB l611
  refine then_normal ?_
  refine wp_seq ?_
  have HB : w.heap.size ≤ v604.heap.size := T605.size
  refine wp_plan_seq [.val (.az 1048576 z), .val (.az 1048576 z), .val (.tup2 (.cz 0) (.is (.int .i64 21))), .val (.tup2 (.cz 0) (.is (.int .i64 21))), .val (.cz 0), .val (.is (.int .i64 21)), .new 2 none, .put 3 17, .val (.is (.int .i64 21))] [] [] w.heap.size (by kernel_rfl) (by kernel_rfl) trivial HB ?_ ?_
  · exact ⟨fun s v h => does_val rfl rfl (x_load_z ((h.same 1 rfl).trans p610) ((h.far q609 b613.lt (by simp)).trans b613)) (f606.mono h.mono),
      fun s v h => does_call rfl rfl (x_call1 Try.call18) (own_k (h.dep 0 rfl) (by omega)),
      fun s v h => does_call rfl rfl (x_call1 Try.call17) (zroot_b (h.dep 1 rfl) ds),
      fun s v h => does_val rfl rfl (x_move) (h.dep 2 rfl),
      fun s v h => by obtain ⟨r0, r1, e, f0, f1⟩ := tup2_at (h.dep 3 rfl); exact does_val rfl rfl (x_ext e rfl) f0,
      fun s v h => by obtain ⟨r0, r1, e, f0, f1⟩ := tup2_at (h.dep 3 rfl); exact does_val rfl rfl (x_ext e rfl) f1,
      fun s v h => does_new rfl rfl x_alloc_z (okz _ _ _ _) rfl (.inl rfl),
      fun s v h => by obtain ⟨q, e1, e2, e3⟩ := new_at (h.dep 6 rfl); exact does_put_z rfl rfl e1 (h.dep 4 rfl).shape e3 (Nat.le_trans HB e2),
      fun s v h => does_val rfl rfl (x_assign) (h.dep 5 rfl), trivial⟩
  intro g615 ts v615 hts E615
  simp only [fillL, Nat.reduceAdd, List.setIfInBounds_toArray, List.set_cons_zero, List.set_cons_succ] at hts
  subst hts
  have T616 : Below w.heap.size w v615 := T605.trans E615.below
  have l617 : q609 < v604.heap.size := b613.lt
  have b618 : Bx v615 q609 24 #[.bool na0, .slice A0 n0 c0] := (E615.far q609 b613.lt (by simp)).trans b613
  have f619 := f606.mono E615.mono
  have f620 := f607.mono E615.mono
  have f621 : Az 1048576 v615 (g615 0) z := E615.facts 0 (by decide)
  have f622 : Az 1048576 v615 (g615 1) z := E615.facts 1 (by decide)
  have f623 : Cz v615 (g615 4) 0 := E615.facts 4 (by decide)
  have e624 : g615 5 = (.int .i64 21) := E615.facts 5 (by decide)
  have e625 : g615 8 = (.int .i64 21) := E615.facts 8 (by decide)
  obtain ⟨q626, p627, l628, o629⟩ : ∃ q, g615 6 = .pointer (some ⟨q, 0, none⟩) ∧ v604.heap.size ≤ q ∧ OkB v615 q 2 := E615.facts 6 (by decide)
  have h630 : w.heap.size ≤ q626 := Nat.le_trans HB l628
  have n631 : q609 ≠ q626 := by omega
  obtain ⟨t632, x634, A635, m636, c637, e638, b633⟩ := put_info (E615.facts 7 (by decide)) p627 f623.shape
  have f639 : Cz v615 (.agg #[.bool x634, .slice A635 m636 c637]) 0 := f623.at e638.symm
  refine then_normal ?_
  refine wp_seq ?_
  have HB : w.heap.size ≤ v615.heap.size := T616.size
  refine wp_plan_seq [.val (.az 1048576 z), .val (.tup2 (.cz 0) (.is (.int .i64 21))), .val (.tup2 (.cz 0) (.is (.int .i64 21))), .val (.cz 0), .val (.is (.int .i64 21)), .new 2 none, .put 5 22, .val (.is (.int .i64 21))] [] [] w.heap.size (by kernel_rfl) (by kernel_rfl) trivial HB ?_ ?_
  · exact ⟨fun s v h => does_val rfl rfl (x_load_z ((h.same 1 rfl).trans p610) ((h.far q609 b618.lt (by simp)).trans b618)) (f619.mono h.mono),
      fun s v h => does_call rfl rfl (x_call1 Try.call19) (r2root_b (h.dep 0 rfl) (by omega) ds),
      fun s v h => does_val rfl rfl (x_move) (h.dep 1 rfl),
      fun s v h => by obtain ⟨r0, r1, e, f0, f1⟩ := tup2_at (h.dep 2 rfl); exact does_val rfl rfl (x_ext e rfl) f0,
      fun s v h => by obtain ⟨r0, r1, e, f0, f1⟩ := tup2_at (h.dep 2 rfl); exact does_val rfl rfl (x_ext e rfl) f1,
      fun s v h => does_new rfl rfl x_alloc_z (okz _ _ _ _) rfl (.inl rfl),
      fun s v h => by obtain ⟨q, e1, e2, e3⟩ := new_at (h.dep 5 rfl); exact does_put_z rfl rfl e1 (h.dep 3 rfl).shape e3 (Nat.le_trans HB e2),
      fun s v h => does_val rfl rfl (x_assign) (h.dep 4 rfl), trivial⟩
  intro g640 ts v640 hts E640
  simp only [fillL, Nat.reduceAdd, List.setIfInBounds_toArray, List.set_cons_zero, List.set_cons_succ] at hts
  subst hts
  have T641 : Below w.heap.size w v640 := T616.trans E640.below
  have l642 : q609 < v615.heap.size := b618.lt
  have l643 : q626 < v615.heap.size := b633.lt
  have b644 : Bx v640 q609 24 #[.bool na0, .slice A0 n0 c0] := (E640.far q609 b618.lt (by simp)).trans b618
  have b645 : Bx v640 q626 t632 #[.bool x634, .slice A635 m636 c637] := (E640.far q626 b633.lt (by simp)).trans b633
  have f646 := f619.mono E640.mono
  have f647 := f620.mono E640.mono
  have f648 := f621.mono E640.mono
  have f649 := f622.mono E640.mono
  have f650 := f623.mono E640.mono
  have f651 := f639.mono E640.mono
  have f652 : Az 1048576 v640 (g640 0) z := E640.facts 0 (by decide)
  have f653 : Cz v640 (g640 3) 0 := E640.facts 3 (by decide)
  have e654 : g640 4 = (.int .i64 21) := E640.facts 4 (by decide)
  have e655 : g640 7 = (.int .i64 21) := E640.facts 7 (by decide)
  obtain ⟨q656, p657, l658, o659⟩ : ∃ q, g640 5 = .pointer (some ⟨q, 0, none⟩) ∧ v615.heap.size ≤ q ∧ OkB v640 q 2 := E640.facts 5 (by decide)
  have h660 : w.heap.size ≤ q656 := Nat.le_trans HB l658
  have n661 : q609 ≠ q656 := by omega
  have n662 : q626 ≠ q656 := by omega
  obtain ⟨t663, x665, A666, m667, c668, e669, b664⟩ := put_info (E640.facts 6 (by decide)) p657 f653.shape
  have f670 : Cz v640 (.agg #[.bool x665, .slice A666 m667 c668]) 0 := f653.at e669.symm
  refine then_normal ?_
  refine wp_seq ?_
  refine wp_seq ?_
  have HB : w.heap.size ≤ v640.heap.size := T641.size
  refine wp_plan_any [.val (.is (.int .i64 21)), .val (.is (.int .i64 21)), .val (.is (.bool false)), .val (.is (.bool false)), .val (.cz 0), .val (.cz 0), .val (.is (.bool true)), .val (.is (.bool false)), .val (.is (.bool false)), .val (.is (.bool false)), .val (.az 1048576 z), .val (.az 1048576 z), .val (.is (.int .i64 (blen z.natAbs))), .val (.az 1048576 z), .val (.is (.int .i64 (blen z.natAbs))), .val (.is (.bool false)), .val (.is (.bool false))] [] [] w.heap.size (by kernel_rfl) (by kernel_rfl) (by kernel_rfl) trivial HB ?_ ?_
  · exact ⟨fun s v h => does_val rfl rfl (x_move) ((h.same 4 rfl).trans e625),
      fun s v h => does_val rfl rfl (x_move) ((h.same 6 rfl).trans e655),
      fun s v h => does_val rfl rfl (x_neq_int (h.dep 0 rfl) (h.dep 1 rfl)) rfl,
      fun s v h => does_val rfl rfl (x_move) (h.dep 2 rfl),
      fun s v h => does_val rfl (wanted_by (b := false) (want := false) rfl rfl (h.dep 3 rfl)) (x_load_z ((h.same 3 rfl).trans p627) ((h.far q626 b645.lt (by simp)).trans b645)) (f651.mono ((Mono.drew _).trans h.mono)),
      fun s v h => does_val rfl (wanted_by (b := false) (want := false) rfl rfl (h.dep 3 rfl)) (x_load_z ((h.same 5 rfl).trans p657) ((h.far q656 b664.lt (by simp)).trans b664)) (f670.mono ((Mono.drew _).trans h.mono)),
      fun s v h => does_call rfl (wanted_by (b := false) (want := false) rfl rfl (h.dep 3 rfl)) (x_call2 Try.call12) (eq_k (h.dep 4 rfl) (h.dep 5 rfl) rfl),
      fun s v h => does_val rfl (wanted_by (b := false) (want := false) rfl rfl (h.dep 3 rfl)) (x_not (h.dep 6 rfl)) rfl,
      fun s v h => does_val rfl rfl (x_pick (h.dep 3 rfl)) (h.dep 7 rfl),
      fun s v h => does_val rfl rfl (x_move) (h.dep 8 rfl),
      fun s v h => does_val rfl (wanted_by (b := false) (want := false) rfl rfl (h.dep 9 rfl)) (x_load_z ((h.same 1 rfl).trans p610) ((h.far q609 b644.lt (by simp)).trans b644)) (f646.mono ((Mono.drew _).trans h.mono)),
      fun s v h => does_call rfl (wanted_by (b := false) (want := false) rfl rfl (h.dep 9 rfl)) (x_call1 Try.call18) (own_k (h.dep 10 rfl) (by omega)),
      fun s v h => does_call rfl (wanted_by (b := false) (want := false) rfl rfl (h.dep 9 rfl)) (x_call1 Try.call20) (zbits_k (h.dep 11 rfl)),
      fun s v h => does_val rfl (wanted_by (b := false) (want := false) rfl rfl (h.dep 9 rfl)) (x_load_z ((h.same 1 rfl).trans p610) ((h.far q609 b644.lt (by simp)).trans b644)) (f646.mono ((Mono.drew _).trans h.mono)),
      fun s v h => does_call rfl (wanted_by (b := false) (want := false) rfl rfl (h.dep 9 rfl)) (x_call1 Try.call21) (r2bits_k (h.dep 13 rfl)),
      fun s v h => does_val rfl (wanted_by (b := false) (want := false) rfl rfl (h.dep 9 rfl)) (x_neq_int (h.dep 12 rfl) (h.dep 14 rfl)) (by show _ = _; simp),
      fun s v h => does_val rfl rfl (x_pick (h.dep 9 rfl)) (h.dep 15 rfl), trivial⟩
  intro g671 ts v671 hts E671
  simp only [fillL, Nat.reduceAdd, List.setIfInBounds_toArray, List.set_cons_zero, List.set_cons_succ] at hts
  subst hts
  have T672 : Below w.heap.size w v671 := (below_toDrew T641).trans E671.below
  have l673 : q609 < v640.heap.size := b644.lt
  have l674 : q626 < v640.heap.size := b645.lt
  have l675 : q656 < v640.heap.size := b664.lt
  have b676 : Bx v671 q609 24 #[.bool na0, .slice A0 n0 c0] := (E671.far q609 b644.lt (by simp)).trans b644
  have b677 : Bx v671 q626 t632 #[.bool x634, .slice A635 m636 c637] := (E671.far q626 b645.lt (by simp)).trans b645
  have b678 : Bx v671 q656 t663 #[.bool x665, .slice A666 m667 c668] := (E671.far q656 b664.lt (by simp)).trans b664
  have f679 := f646.mono ((Mono.drew _).trans E671.mono)
  have f680 := f647.mono ((Mono.drew _).trans E671.mono)
  have f681 := f648.mono ((Mono.drew _).trans E671.mono)
  have f682 := f649.mono ((Mono.drew _).trans E671.mono)
  have f683 := f650.mono ((Mono.drew _).trans E671.mono)
  have f684 := f651.mono ((Mono.drew _).trans E671.mono)
  have f685 := f652.mono ((Mono.drew _).trans E671.mono)
  have f686 := f653.mono ((Mono.drew _).trans E671.mono)
  have f687 := f670.mono ((Mono.drew _).trans E671.mono)
  have e688 : g671 0 = (.int .i64 21) := E671.facts 0 (by decide)
  have e689 : g671 1 = (.int .i64 21) := E671.facts 1 (by decide)
  have e690 : g671 2 = (.bool false) := E671.facts 2 (by decide)
  have e691 : g671 3 = (.bool false) := E671.facts 3 (by decide)
  have f692 : Cz v671 (g671 4) 0 := E671.facts 4 (by decide)
  have f693 : Cz v671 (g671 5) 0 := E671.facts 5 (by decide)
  have e694 : g671 6 = (.bool true) := E671.facts 6 (by decide)
  have e695 : g671 7 = (.bool false) := E671.facts 7 (by decide)
  have e696 : g671 8 = (.bool false) := E671.facts 8 (by decide)
  have e697 : g671 9 = (.bool false) := E671.facts 9 (by decide)
  have f698 : Az 1048576 v671 (g671 10) z := E671.facts 10 (by decide)
  have f699 : Az 1048576 v671 (g671 11) z := E671.facts 11 (by decide)
  have e700 : g671 12 = (.int .i64 (blen z.natAbs)) := E671.facts 12 (by decide)
  have f701 : Az 1048576 v671 (g671 13) z := E671.facts 13 (by decide)
  have e702 : g671 14 = (.int .i64 (blen z.natAbs)) := E671.facts 14 (by decide)
  have e703 : g671 15 = (.bool false) := E671.facts 15 (by decide)
  have e704 : g671 16 = (.bool false) := E671.facts 16 (by decide)
  refine then_normal ?_
  refine wp_cond_false e704 ?_
  refine wp_skip ?_
  refine then_normal ?_
  refine wp_seq ?_
  have HB : w.heap.size ≤ v671.heap.size := T672.size
  refine wp_plan_seq [.val (.az 1048576 z), .val (.az 1048576 z), .val (.tup3 (.is (.int .u64 ((z.natAbs / 2 ^ e : Nat) : Int))) (.is (.int .i64 (e : Int))) (.is (.bool b))), .val (.tup3 (.is (.int .u64 ((z.natAbs / 2 ^ e : Nat) : Int))) (.is (.int .i64 (e : Int))) (.is (.bool b))), .val (.is (.int .u64 ((z.natAbs / 2 ^ e : Nat) : Int))), .val (.is (.int .i64 (e : Int))), .val (.is (.bool b)), .val (.is (.int .u64 ((z.natAbs / 2 ^ e : Nat) : Int))), .val (.is (.int .i64 (e : Int))), .val (.is (.bool b))] [] [] w.heap.size (by kernel_rfl) (by kernel_rfl) trivial HB ?_ ?_
  · exact ⟨fun s v h => does_val rfl rfl (x_load_z ((h.same 1 rfl).trans p610) ((h.far q609 b676.lt (by simp)).trans b676)) (f679.mono h.mono),
      fun s v h => does_call rfl rfl (x_call1 Try.call18) (own_k (h.dep 0 rfl) (by omega)),
      fun s v h => does_call rfl rfl (x_call1 Try.call22) (ztop_k (h.dep 1 rfl) (by omega) he hq b hb),
      fun s v h => does_val rfl rfl (x_move) (h.dep 2 rfl),
      fun s v h => by obtain ⟨r0, r1, r2, e, f0, f1, f2⟩ := tup3_at (h.dep 3 rfl); exact does_val rfl rfl (x_ext e rfl) f0,
      fun s v h => by obtain ⟨r0, r1, r2, e, f0, f1, f2⟩ := tup3_at (h.dep 3 rfl); exact does_val rfl rfl (x_ext e rfl) f1,
      fun s v h => by obtain ⟨r0, r1, r2, e, f0, f1, f2⟩ := tup3_at (h.dep 3 rfl); exact does_val rfl rfl (x_ext e rfl) f2,
      fun s v h => does_val rfl rfl (x_assign) (h.dep 4 rfl),
      fun s v h => does_val rfl rfl (x_assign) (h.dep 5 rfl),
      fun s v h => does_val rfl rfl (x_assign) (h.dep 6 rfl), trivial⟩
  intro g705 ts v705 hts E705
  simp only [fillL, Nat.reduceAdd, List.setIfInBounds_toArray, List.set_cons_zero, List.set_cons_succ] at hts
  subst hts
  have T706 : Below w.heap.size w v705 := T672.trans E705.below
  have l707 : q609 < v671.heap.size := b676.lt
  have l708 : q626 < v671.heap.size := b677.lt
  have l709 : q656 < v671.heap.size := b678.lt
  have b710 : Bx v705 q609 24 #[.bool na0, .slice A0 n0 c0] := (E705.far q609 b676.lt (by simp)).trans b676
  have b711 : Bx v705 q626 t632 #[.bool x634, .slice A635 m636 c637] := (E705.far q626 b677.lt (by simp)).trans b677
  have b712 : Bx v705 q656 t663 #[.bool x665, .slice A666 m667 c668] := (E705.far q656 b678.lt (by simp)).trans b678
  have f713 := f679.mono E705.mono
  have f714 := f680.mono E705.mono
  have f715 := f681.mono E705.mono
  have f716 := f682.mono E705.mono
  have f717 := f683.mono E705.mono
  have f718 := f684.mono E705.mono
  have f719 := f685.mono E705.mono
  have f720 := f686.mono E705.mono
  have f721 := f687.mono E705.mono
  have f722 := f692.mono E705.mono
  have f723 := f693.mono E705.mono
  have f724 := f698.mono E705.mono
  have f725 := f699.mono E705.mono
  have f726 := f701.mono E705.mono
  have f727 : Az 1048576 v705 (g705 0) z := E705.facts 0 (by decide)
  have f728 : Az 1048576 v705 (g705 1) z := E705.facts 1 (by decide)
  have e729 : g705 4 = (.int .u64 ((z.natAbs / 2 ^ e : Nat) : Int)) := E705.facts 4 (by decide)
  have e730 : g705 5 = (.int .i64 (e : Int)) := E705.facts 5 (by decide)
  have e731 : g705 6 = (.bool b) := E705.facts 6 (by decide)
  have e732 : g705 7 = (.int .u64 ((z.natAbs / 2 ^ e : Nat) : Int)) := E705.facts 7 (by decide)
  have e733 : g705 8 = (.int .i64 (e : Int)) := E705.facts 8 (by decide)
  have e734 : g705 9 = (.bool b) := E705.facts 9 (by decide)
  refine then_normal ?_
  refine wp_seq ?_
  have HB : w.heap.size ≤ v705.heap.size := T706.size
  refine wp_plan_seq [.val (.az 1048576 z), .val (.tup3 (.is (.int .u64 ((z.natAbs / 2 ^ e : Nat) : Int))) (.is (.int .i64 (e : Int))) (.is (.bool b))), .val (.tup3 (.is (.int .u64 ((z.natAbs / 2 ^ e : Nat) : Int))) (.is (.int .i64 (e : Int))) (.is (.bool b))), .val (.is (.int .u64 ((z.natAbs / 2 ^ e : Nat) : Int))), .val (.is (.int .i64 (e : Int))), .val (.is (.bool b)), .val (.is (.int .u64 ((z.natAbs / 2 ^ e : Nat) : Int))), .val (.is (.int .i64 (e : Int))), .val (.is (.bool b))] [] [] w.heap.size (by kernel_rfl) (by kernel_rfl) trivial HB ?_ ?_
  · exact ⟨fun s v h => does_val rfl rfl (x_load_z ((h.same 1 rfl).trans p610) ((h.far q609 b710.lt (by simp)).trans b710)) (f713.mono h.mono),
      fun s v h => does_call rfl rfl (x_call1 Try.call23) (r2top_b (h.dep 0 rfl) (by omega) he2 dt hq b hb2),
      fun s v h => does_val rfl rfl (x_move) (h.dep 1 rfl),
      fun s v h => by obtain ⟨r0, r1, r2, e, f0, f1, f2⟩ := tup3_at (h.dep 2 rfl); exact does_val rfl rfl (x_ext e rfl) f0,
      fun s v h => by obtain ⟨r0, r1, r2, e, f0, f1, f2⟩ := tup3_at (h.dep 2 rfl); exact does_val rfl rfl (x_ext e rfl) f1,
      fun s v h => by obtain ⟨r0, r1, r2, e, f0, f1, f2⟩ := tup3_at (h.dep 2 rfl); exact does_val rfl rfl (x_ext e rfl) f2,
      fun s v h => does_val rfl rfl (x_assign) (h.dep 3 rfl),
      fun s v h => does_val rfl rfl (x_assign) (h.dep 4 rfl),
      fun s v h => does_val rfl rfl (x_assign) (h.dep 5 rfl), trivial⟩
  intro g735 ts v735 hts E735
  simp only [fillL, Nat.reduceAdd, List.setIfInBounds_toArray, List.set_cons_zero, List.set_cons_succ] at hts
  subst hts
  have T736 : Below w.heap.size w v735 := T706.trans E735.below
  have l737 : q609 < v705.heap.size := b710.lt
  have l738 : q626 < v705.heap.size := b711.lt
  have l739 : q656 < v705.heap.size := b712.lt
  have b740 : Bx v735 q609 24 #[.bool na0, .slice A0 n0 c0] := (E735.far q609 b710.lt (by simp)).trans b710
  have b741 : Bx v735 q626 t632 #[.bool x634, .slice A635 m636 c637] := (E735.far q626 b711.lt (by simp)).trans b711
  have b742 : Bx v735 q656 t663 #[.bool x665, .slice A666 m667 c668] := (E735.far q656 b712.lt (by simp)).trans b712
  have f743 := f713.mono E735.mono
  have f744 := f714.mono E735.mono
  have f745 := f715.mono E735.mono
  have f746 := f716.mono E735.mono
  have f747 := f717.mono E735.mono
  have f748 := f718.mono E735.mono
  have f749 := f719.mono E735.mono
  have f750 := f720.mono E735.mono
  have f751 := f721.mono E735.mono
  have f752 := f722.mono E735.mono
  have f753 := f723.mono E735.mono
  have f754 := f724.mono E735.mono
  have f755 := f725.mono E735.mono
  have f756 := f726.mono E735.mono
  have f757 := f727.mono E735.mono
  have f758 := f728.mono E735.mono
  have f759 : Az 1048576 v735 (g735 0) z := E735.facts 0 (by decide)
  have e760 : g735 3 = (.int .u64 ((z.natAbs / 2 ^ e : Nat) : Int)) := E735.facts 3 (by decide)
  have e761 : g735 4 = (.int .i64 (e : Int)) := E735.facts 4 (by decide)
  have e762 : g735 5 = (.bool b) := E735.facts 5 (by decide)
  have e763 : g735 6 = (.int .u64 ((z.natAbs / 2 ^ e : Nat) : Int)) := E735.facts 6 (by decide)
  have e764 : g735 7 = (.int .i64 (e : Int)) := E735.facts 7 (by decide)
  have e765 : g735 8 = (.bool b) := E735.facts 8 (by decide)
  refine then_normal ?_
  refine wp_seq ?_
  have HB : w.heap.size ≤ v735.heap.size := T736.size
  refine wp_plan_seq [.val (.is (.int .u64 ((z.natAbs / 2 ^ e : Nat) : Int))), .val (.is (.int .u64 ((z.natAbs / 2 ^ e : Nat) : Int))), .val (.is (.bool true)), .val (.is (.bool true)), .val (.is (.int .i64 (e : Int))), .val (.is (.int .i64 (e : Int))), .val (.is (.bool true)), .val (.is (.bool true)), .val (.is (.bool true)), .val (.is (.bool b)), .val (.is (.bool b)), .val (.is (.bool true)), .val (.is (.bool true)), .val (.is (.bool true))] [] [] w.heap.size (by kernel_rfl) (by kernel_rfl) trivial HB ?_ ?_
  · exact ⟨fun s v h => does_val rfl rfl (x_move) ((h.same 7 rfl).trans e732),
      fun s v h => does_val rfl rfl (x_move) ((h.same 10 rfl).trans e763),
      fun s v h => does_val rfl rfl (x_eql_u64 (h.dep 0 rfl) (h.dep 1 rfl)) (by show _ = _; simp),
      fun s v h => does_val rfl rfl (x_move) (h.dep 2 rfl),
      fun s v h => does_val rfl (wanted_by (b := true) (want := true) rfl rfl (h.dep 3 rfl)) (x_move) ((h.same 8 rfl).trans e733),
      fun s v h => does_val rfl (wanted_by (b := true) (want := true) rfl rfl (h.dep 3 rfl)) (x_move) ((h.same 11 rfl).trans e764),
      fun s v h => does_val rfl (wanted_by (b := true) (want := true) rfl rfl (h.dep 3 rfl)) (x_eql_int (h.dep 4 rfl) (h.dep 5 rfl)) (by show _ = _; simp),
      fun s v h => does_val rfl rfl (x_pick (h.dep 3 rfl)) (h.dep 6 rfl),
      fun s v h => does_val rfl rfl (x_move) (h.dep 7 rfl),
      fun s v h => does_val rfl (wanted_by (b := true) (want := true) rfl rfl (h.dep 8 rfl)) (x_move) ((h.same 9 rfl).trans e734),
      fun s v h => does_val rfl (wanted_by (b := true) (want := true) rfl rfl (h.dep 8 rfl)) (x_move) ((h.same 12 rfl).trans e765),
      fun s v h => does_val rfl (wanted_by (b := true) (want := true) rfl rfl (h.dep 8 rfl)) (x_eql_bool (h.dep 9 rfl) (h.dep 10 rfl)) (by show _ = _; simp),
      fun s v h => does_val rfl rfl (x_pick (h.dep 8 rfl)) (h.dep 11 rfl),
      fun s v h => does_val rfl rfl (x_assign) (h.dep 12 rfl), trivial⟩
  intro g766 ts v766 hts E766
  simp only [fillL, Nat.reduceAdd, List.setIfInBounds_toArray, List.set_cons_zero, List.set_cons_succ] at hts
  subst hts
  have T767 : Below w.heap.size w v766 := T736.trans E766.below
  have l768 : q609 < v735.heap.size := b740.lt
  have l769 : q626 < v735.heap.size := b741.lt
  have l770 : q656 < v735.heap.size := b742.lt
  have b771 : Bx v766 q609 24 #[.bool na0, .slice A0 n0 c0] := (E766.far q609 b740.lt (by simp)).trans b740
  have b772 : Bx v766 q626 t632 #[.bool x634, .slice A635 m636 c637] := (E766.far q626 b741.lt (by simp)).trans b741
  have b773 : Bx v766 q656 t663 #[.bool x665, .slice A666 m667 c668] := (E766.far q656 b742.lt (by simp)).trans b742
  have f774 := f743.mono E766.mono
  have f775 := f744.mono E766.mono
  have f776 := f745.mono E766.mono
  have f777 := f746.mono E766.mono
  have f778 := f747.mono E766.mono
  have f779 := f748.mono E766.mono
  have f780 := f749.mono E766.mono
  have f781 := f750.mono E766.mono
  have f782 := f751.mono E766.mono
  have f783 := f752.mono E766.mono
  have f784 := f753.mono E766.mono
  have f785 := f754.mono E766.mono
  have f786 := f755.mono E766.mono
  have f787 := f756.mono E766.mono
  have f788 := f757.mono E766.mono
  have f789 := f758.mono E766.mono
  have f790 := f759.mono E766.mono
  have e791 : g766 0 = (.int .u64 ((z.natAbs / 2 ^ e : Nat) : Int)) := E766.facts 0 (by decide)
  have e792 : g766 1 = (.int .u64 ((z.natAbs / 2 ^ e : Nat) : Int)) := E766.facts 1 (by decide)
  have e793 : g766 2 = (.bool true) := E766.facts 2 (by decide)
  have e794 : g766 3 = (.bool true) := E766.facts 3 (by decide)
  have e795 : g766 4 = (.int .i64 (e : Int)) := E766.facts 4 (by decide)
  have e796 : g766 5 = (.int .i64 (e : Int)) := E766.facts 5 (by decide)
  have e797 : g766 6 = (.bool true) := E766.facts 6 (by decide)
  have e798 : g766 7 = (.bool true) := E766.facts 7 (by decide)
  have e799 : g766 8 = (.bool true) := E766.facts 8 (by decide)
  have e800 : g766 9 = (.bool b) := E766.facts 9 (by decide)
  have e801 : g766 10 = (.bool b) := E766.facts 10 (by decide)
  have e802 : g766 11 = (.bool true) := E766.facts 11 (by decide)
  have e803 : g766 12 = (.bool true) := E766.facts 12 (by decide)
  have e804 : g766 13 = (.bool true) := E766.facts 13 (by decide)
  refine then_normal ?_
  refine wp_ret ?_
  exact bodyPost_ret (results_tmp (t := 2) rfl _ _ _) rfl ⟨_, rfl, e804, T767⟩

theorem zintTops_law (w : World) (x : Value) (z : Int) (h0 : Az 1048576 w x z) :
    Calls Try.prog 4 #[x] w fun e w' => e = .returned (.bool true) ∧ Below w.heap.size w w' := by
  have fin : Calls Try.prog 4 #[x] w (Ret (.is (.bool true)) w) := by
    obtain ⟨M, hM⟩ : ∃ M, M = z.natAbs := ⟨_, rfl⟩
    have hlt : M < 2 ^ blen M := blen_le_iff.1 (Nat.le_refl _)
    by_cases ht : 53 < blen z.natAbs
    · obtain ⟨e, he⟩ : ∃ e : Nat, e = blen z.natAbs - 53 := ⟨_, rfl⟩
      have hq : Hid (z.natAbs / 2 ^ e < 9007199254740992) := Lib.hid (by
        rw [Nat.div_lt_iff_lt_mul (pow_pos2 e), ← hM]
        have h : 9007199254740992 * 2 ^ e = 2 ^ blen M := by
          rw [show (9007199254740992 : Nat) = 2 ^ 53 by rfl, ← Nat.pow_add]
          congr 1
          rw [hM]
          omega
        rw [h]
        exact hlt)
      cases hs : decide (z.sign < 0) with
      | true => exact zt_ba h0 hs (e := e) (by omega) (by omega) (by simp; omega) hq _ rfl (sign_nat _)
      | false => exact zt_aa h0 hs (e := e) (by omega) (by omega) (by simp; omega) hq _ rfl (sign_nat _)
    · have hq : Hid (z.natAbs / 2 ^ 0 < 9007199254740992) := Lib.hid (by
        rw [Nat.pow_zero, Nat.div_one, ← hM]
        refine Nat.lt_of_lt_of_le hlt ?_
        rw [show (9007199254740992 : Nat) = 2 ^ 53 by rfl]
        exact Nat.pow_le_pow_right (by omega) (by rw [hM]; omega))
      cases hs : decide (z.sign < 0) with
      | true => exact zt_bb h0 hs (e := 0) (by omega) rfl (by simp; omega) hq _ rfl (sign_nat _)
      | false => exact zt_ab h0 hs (e := 0) (by omega) rfl (by simp; omega) hq _ rfl (sign_nat _)
  refine fin.mono fun e w' h => ?_
  obtain ⟨r, e, hr, hB⟩ := h
  have hr : r = .bool true := hr
  exact ⟨by rw [e, hr], hB⟩
end Go.Proofs.Ytkidgeeedigkhaa
