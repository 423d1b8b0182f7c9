/- Top of both, ref02.Two -/
import Derived.Test.YtkidgeeedigkhaaYSmall
import Derived.Test.YtkidgeeedigkhaaY3
namespace Go.Proofs.Ytkidgeeedigkhaa
open Go.RowKit

section
variable {d : Option Tmp} {ty : TypeId} {pos : String} {after : Array Edge} {guard : Option (Nat × Bool)} {a : Act} {w : World}
theorem x_max {t : Tmp} {n : Int} (hy : Act.vs a t = .int .i64 n) : (execOp a.eval ⟨d, .call { callee := .builtin .max, args := #[.const (.int .i64 0), .tmp t], argTypes := #[3, 3] }, ty, pos, after, guard⟩).run Try.prog w = .ok (.value (.int .i64 (max 0 n))) w := by
  have e : a.tmps[t]?.getD undef = .int .i64 n := by rw [← hy]; simp [Act.vs]
  simp [go_sem, e]
theorem x_len_cn {t : Tmp} {M : Nat} (hx : Cn w (Act.vs a t) M) : (execOp a.eval ⟨d, .call { callee := .builtin .len, args := #[.tmp t], argTypes := #[22] }, ty, pos, after, guard⟩).run Try.prog w = .ok (.value (.int .i64 (digs M).length)) w := by
  obtain ⟨A, c, hx, _⟩ := hx
  exact x_len hx
theorem x_conv_64 {x : Operand} {n : Int} (hx : a.eval x = .int .i64 n) (h : IntKind.u64.wrap n = n) : (execOp a.eval ⟨d, .convert 2 36 x, ty, pos, after, guard⟩).run Try.prog w = .ok (.value (.int .u64 n)) w := by
  simp only [execOp, hx]
  go_simp
end

theorem ndiv_cn {w : World} {x y : Value} {a b N M : Nat} (h : Nz N w x a) (h' : Nz M w y b) (hN : N ≤ 35184372088829) (h0 : 0 < b) : Calls Try.prog 63 #[x, y] w (Ret (.tup3 (.nz N (a / b)) (.cn (a % b)) (.is (.int .i64 0))) w) := by
  have hK := h.len
  have h1 := dl_le (Nat.div_le_self a b)
  obtain ⟨A, n, c, l, rfl, hS, rfl, hn⟩ := h
  obtain ⟨A', n', c', l', rfl, hS', rfl, hn'⟩ := h'
  refine (div_calls w A n c l A' n' c' l' hS hS' h0 (by omega)).mono fun _ _ h => ?_
  obtain ⟨B, d, B', d', rfl, hO, hO', _, hB⟩ := h
  exact ⟨_, rfl, ⟨_, _, _, rfl, Nz.of_own hO (by omega), ⟨⟨_, _, rfl, hO'.sl⟩⟩, rfl⟩, hB⟩
theorem blen_bits {M N : Nat} (h : (digs M).length ≤ N) : blen M ≤ 32 * N := blen_le_iff.2 (by rw [← pow_B]; exact digs_len_lt_iff.1 h)
theorem pow_pos2 (e : Nat) : 0 < 2 ^ e := Nat.pow_pos (by omega)

set_option maxHeartbeats 4000000 in
set_option maxRecDepth 8000 in
theorem ztop_k {w : World} {x : Value} {z : Int} {N0 : Nat} (h0 : Az N0 w x z) {e : Nat} (hN0 : N0 ≤ 1000000000) (he : max 0 ((blen z.natAbs : Int) - 53) = (e : Int)) (hq : Hid (z.natAbs / 2 ^ e < 9007199254740992)) (b : Bool) (hb : (((digs (z.natAbs % 2 ^ e)).length : Int) == 0) = b)  : Calls Try.prog 22 #[x] w (Ret (.tup3 (.is (.int .u64 ((z.natAbs / 2 ^ e : Nat) : Int))) (.is (.int .i64 e)) (.is (.bool b))) w) := by
  have la0 := h0.len
  obtain ⟨na0, A0, n0, c0, M0, rfl, hm0, hz0⟩ := h0.parts
  have hMz : z.natAbs = M0 := by rw [← hz0, zof_abs]
  have hbl := blen_bits hm0.len
  rw [hMz] at he hq hb ⊢
  have T0 : Below w.heap.size w w := Below.refl _ _
  go_enter Try.func22, Try.ntmps22
  refine wp_seq ?_
  have HB : w.heap.size ≤ w.heap.size := T0.size
  refine wp_plan_seq [.new 2 (some (24, #[.bool na0, .slice A0 n0 c0])), .val (.is (.int .u64 0)), .val (.is (.int .i64 0)), .val (.is (.bool false))] [] [] w.heap.size (by kernel_rfl) (by kernel_rfl) trivial HB ?_ ?_
  · exact ⟨fun s v h => does_new rfl rfl (x_box_z (h.same 0 rfl)) (okz _ _ _ _) rfl (.inr rfl),
      fun s v h => does_val rfl rfl (x_assign) rfl,
      fun s v h => does_val rfl rfl (x_assign) rfl,
      fun s v h => does_val rfl rfl (x_assign) rfl, trivial⟩
  intro g1 ts v1 hts E1
  simp only [fillL, Nat.reduceAdd, List.setIfInBounds_toArray, List.set_cons_zero, List.set_cons_succ] at hts
  subst hts
  have T2 : Below w.heap.size w v1 := T0.trans E1.below
  have f3 := h0.mono E1.mono
  have f4 := hm0.mono E1.mono
  obtain ⟨q8, p9, l10, o11, b12⟩ : ∃ q, g1 0 = .pointer (some ⟨q, 0, none⟩) ∧ w.heap.size ≤ q ∧ OkB v1 q 2 ∧ Bx v1 q 24 #[.bool na0, .slice A0 n0 c0] := E1.facts 0 (by decide)
  have h13 : w.heap.size ≤ q8 := Nat.le_trans HB l10
  refine then_normal ?_
  refine wp_seq ?_
  have HB : w.heap.size ≤ v1.heap.size := T2.size
  refine wp_plan_seq [.val (.az N0 z), .val (.is (.int .i64 (blen M0))), .val (.is (.int .i64 ((blen M0) - 53))), .val (.is (.int .i64 e)), .val (.is (.int .i64 e))] [] [] w.heap.size (by kernel_rfl) (by kernel_rfl) trivial HB ?_ ?_
  · exact ⟨fun s v h => does_val rfl rfl (x_load_z ((h.same 1 rfl).trans p9) ((h.far q8 b12.lt (by simp)).trans b12)) (f3.mono h.mono),
      fun s v h => does_call rfl rfl (x_call1 Try.call20) (hMz ▸ zbits_k (h.dep 0 rfl)),
      fun s v h => does_val rfl rfl (x_sub (h.dep 1 rfl) rfl (by rw [IntKind.wrap_i64]; omega)) rfl,
      fun s v h => does_val rfl rfl (x_max (h.dep 2 rfl)) (congrArg (Value.int .i64) he),
      fun s v h => does_val rfl rfl (x_assign) (h.dep 3 rfl), trivial⟩
  intro g14 ts v14 hts E14
  simp only [fillL, Nat.reduceAdd, List.setIfInBounds_toArray, List.set_cons_zero, List.set_cons_succ] at hts
  subst hts
  have T15 : Below w.heap.size w v14 := T2.trans E14.below
  have l16 : q8 < v1.heap.size := b12.lt
  have b17 : Bx v14 q8 24 #[.bool na0, .slice A0 n0 c0] := (E14.far q8 b12.lt (by simp)).trans b12
  have f19 := f4.mono E14.mono
  have e24 : g14 4 = (.int .i64 e) := E14.facts 4 (by decide)
  refine then_normal ?_
  refine wp_seq ?_
  have HB : w.heap.size ≤ v14.heap.size := T15.size
  refine wp_plan_any [.val (.is (.pointer (some ⟨q8, 1, none⟩))), .val (.nz N0 M0), .val (.is (.int .i64 e)), .val (.nz (e / 32 + 1) (2 ^ e)), .val (.tup3 (.nz N0 (M0 / 2 ^ e)) (.cn (M0 % 2 ^ e)) (.is (.int .i64 0))), .val (.tup3 (.nz N0 (M0 / 2 ^ e)) (.cn (M0 % 2 ^ e)) (.is (.int .i64 0))), .val (.nz N0 (M0 / 2 ^ e)), .val (.cn (M0 % 2 ^ e)), .val (.is (.int .i64 0)), .val (.nz N0 (M0 / 2 ^ e)), .val (.cn (M0 % 2 ^ e)), .val (.is (.int .i64 0))] [] [] w.heap.size (by kernel_rfl) (by kernel_rfl) (by kernel_rfl) trivial HB ?_ ?_
  · exact ⟨fun s v h => does_val rfl rfl (x_fld (by decide) ((h.same 1 rfl).trans p9)) rfl,
      fun s v h => does_val rfl rfl (x_load_s (h.dep 0 rfl) ((h.far q8 b17.lt (by simp)).trans b17)) (f19.mono ((Mono.drew _).trans h.mono)),
      fun s v h => does_val rfl rfl (x_move) ((h.same 5 rfl).trans e24),
      fun s v h => does_call rfl rfl (x_call1 Try.call64) (ztwo_k (h.dep 2 rfl) (by omega) (Nat.le_refl _)),
      fun s v h => does_call rfl rfl (x_call2 Try.call63) (ndiv_cn (h.dep 1 rfl) (h.dep 3 rfl) (by omega) (pow_pos2 e)),
      fun s v h => does_val rfl rfl (x_move) (h.dep 4 rfl),
      fun s v h => by obtain ⟨r0, r1, r2, e, f0, f1, f2⟩ := tup3_at (h.dep 5 rfl); exact does_val rfl rfl (x_ext e rfl) f0,
      fun s v h => by obtain ⟨r0, r1, r2, e, f0, f1, f2⟩ := tup3_at (h.dep 5 rfl); exact does_val rfl rfl (x_ext e rfl) f1,
      fun s v h => by obtain ⟨r0, r1, r2, e, f0, f1, f2⟩ := tup3_at (h.dep 5 rfl); exact does_val rfl rfl (x_ext e rfl) f2,
      fun s v h => does_val rfl rfl (x_assign) (h.dep 6 rfl),
      fun s v h => does_val rfl rfl (x_assign) (h.dep 7 rfl),
      fun s v h => does_val rfl rfl (x_assign) (h.dep 8 rfl), trivial⟩
  intro g25 ts v25 hts E25
  simp only [fillL, Nat.reduceAdd, List.setIfInBounds_toArray, List.set_cons_zero, List.set_cons_succ] at hts
  subst hts
  have T26 : Below w.heap.size w v25 := (below_toDrew T15).trans E25.below
  have l27 : q8 < v14.heap.size := b17.lt
  have b28 : Bx v25 q8 24 #[.bool na0, .slice A0 n0 c0] := (E25.far q8 b17.lt (by simp)).trans b17
  have f38 : Nz N0 v25 (g25 9) (M0 / 2 ^ e) := E25.facts 9 (by decide)
  have f39 : Cn v25 (g25 10) (M0 % 2 ^ e) := E25.facts 10 (by decide)
  refine then_normal ?_
  refine wp_seq ?_
  have HB : w.heap.size ≤ v25.heap.size := T26.size
  refine wp_plan_seq [.val (.nz N0 (M0 / 2 ^ e)), .val (.tup2 (.is (.int .u64 ((M0 / 2 ^ e : Nat) : Int))) (.is (.bool true))), .val (.tup2 (.is (.int .u64 ((M0 / 2 ^ e : Nat) : Int))) (.is (.bool true))), .val (.is (.int .u64 ((M0 / 2 ^ e : Nat) : Int))), .val (.is (.bool true)), .val (.is (.int .u64 ((M0 / 2 ^ e : Nat) : Int))), .val (.is (.bool true))] [] [] w.heap.size (by kernel_rfl) (by kernel_rfl) trivial HB ?_ ?_
  · exact ⟨fun s v h => does_val rfl rfl (x_move) ((f38.mono h.mono).at (h.same 6 rfl)),
      fun s v h => does_call rfl rfl (x_call1 Try.call65) (word_k (h.dep 0 rfl) (by omega) (by have := hq.out; omega)),
      fun s v h => does_val rfl rfl (x_move) (h.dep 1 rfl),
      fun s v h => by obtain ⟨r0, r1, e, f0, f1⟩ := tup2_at (h.dep 2 rfl); exact does_val rfl rfl (x_ext e rfl) f0,
      fun s v h => by obtain ⟨r0, r1, e, f0, f1⟩ := tup2_at (h.dep 2 rfl); exact does_val rfl rfl (x_ext e rfl) f1,
      fun s v h => does_val rfl rfl (x_assign) (h.dep 3 rfl),
      fun s v h => does_val rfl rfl (x_assign) (h.dep 4 rfl), trivial⟩
  intro g41 ts v41 hts E41
  simp only [fillL, Nat.reduceAdd, List.setIfInBounds_toArray, List.set_cons_zero, List.set_cons_succ] at hts
  subst hts
  have T42 : Below w.heap.size w v41 := T26.trans E41.below
  have l43 : q8 < v25.heap.size := b28.lt
  have b44 : Bx v41 q8 24 #[.bool na0, .slice A0 n0 c0] := (E41.far q8 b28.lt (by simp)).trans b28
  have f53 := f39.mono E41.mono
  have e57 : g41 5 = (.int .u64 ((M0 / 2 ^ e : Nat) : Int)) := E41.facts 5 (by decide)
  refine then_normal ?_
  refine wp_seq ?_
  have HB : w.heap.size ≤ v41.heap.size := T42.size
  refine wp_plan_seq [.val (.is (.int .u64 ((M0 / 2 ^ e : Nat) : Int))), .val (.is (.int .i64 e)), .val (.cn (M0 % 2 ^ e)), .val (.is (.int .i64 (digs (M0 % 2 ^ e)).length)), .val (.is (.bool b)), .val (.is (.int .u64 ((M0 / 2 ^ e : Nat) : Int))), .val (.is (.int .i64 e)), .val (.is (.bool b))] [] [] w.heap.size (by kernel_rfl) (by kernel_rfl) trivial HB ?_ ?_
  · exact ⟨fun s v h => does_val rfl rfl (x_move) ((h.same 9 rfl).trans e57),
      fun s v h => does_val rfl rfl (x_move) ((h.same 5 rfl).trans e24),
      fun s v h => does_val rfl rfl (x_move) ((f53.mono h.mono).at (h.same 7 rfl)),
      fun s v h => does_val rfl rfl (x_len_cn (h.dep 2 rfl)) rfl,
      fun s v h => does_val rfl rfl (x_eql_int (h.dep 3 rfl) rfl) (congrArg Value.bool hb),
      fun s v h => does_val rfl rfl (x_assign) (h.dep 0 rfl),
      fun s v h => does_val rfl rfl (x_assign) (h.dep 1 rfl),
      fun s v h => does_val rfl rfl (x_assign) (h.dep 4 rfl), trivial⟩
  intro g59 ts v59 hts E59
  simp only [fillL, Nat.reduceAdd, List.setIfInBounds_toArray, List.set_cons_zero, List.set_cons_succ] at hts
  subst hts
  have T60 : Below w.heap.size w v59 := T42.trans E59.below
  have l61 : q8 < v41.heap.size := b44.lt
  have e78 : g59 5 = (.int .u64 ((M0 / 2 ^ e : Nat) : Int)) := E59.facts 5 (by decide)
  have e79 : g59 6 = (.int .i64 e) := E59.facts 6 (by decide)
  have e80 : g59 7 = (.bool b) := E59.facts 7 (by decide)
  refine then_normal ?_
  refine wp_ret ?_
  exact bodyPost_ret (results_tmp3 (t := 2) (u := 3) (v := 4) rfl _ _ _) rfl ⟨_, rfl, ⟨_, _, _, rfl, e78, e79, e80⟩, T60⟩

set_option maxHeartbeats 4000000 in
set_option maxRecDepth 8000 in
theorem r2two_k {w : World} {x : Value} {e : Nat} (hx : x = .int .i64 e) (he : e < 1125899906842592) (he2 : e / 32 + 1 ≤ 35184372088832)  : Calls Try.prog 66 #[x] w (Ret (.cz ((2 ^ e : Nat) : Int)) w) := by
  subst hx
  have T0 : Below w.heap.size w w := Below.refl _ _
  go_enter Try.func66, Try.ntmps66
  refine wp_seq ?_
  have HB : w.heap.size ≤ w.heap.size := T0.size
  refine wp_plan_seq [.new 2 (some (24, #[.bool false, .slice none 0 0]))] [] [] w.heap.size (by kernel_rfl) (by kernel_rfl) trivial HB ?_ ?_
  · exact ⟨fun s v h => does_new rfl rfl x_alloc_z (okz _ _ _ _) rfl (.inr rfl), trivial⟩
  intro g81 ts v81 hts E81
  simp only [fillL, List.setIfInBounds_toArray, List.set_cons_zero, List.set_cons_succ] at hts
  subst hts
  have T82 : Below w.heap.size w v81 := T0.trans E81.below
  obtain ⟨q83, p84, l85, o86, b87⟩ : ∃ q, g81 0 = .pointer (some ⟨q, 0, none⟩) ∧ w.heap.size ≤ q ∧ OkB v81 q 2 ∧ Bx v81 q 24 #[.bool false, .slice none 0 0] := E81.facts 0 (by decide)
  have h89 : w.heap.size ≤ q83 := Nat.le_trans HB l85
  refine then_normal ?_
  refine wp_seq ?_
  have HB : w.heap.size ≤ v81.heap.size := T82.size
  refine wp_plan_seq [.val (.is (.int .i64 e)), .val (.nz (e / 32 + 1) (2 ^ e)), .val (.cz (zof false (2 ^ e))), .put 2 5] [2] [q83] w.heap.size (by kernel_rfl) (by kernel_rfl) ⟨p84, b87.lt, (by simp), trivial⟩ HB ?_ ?_
  · exact ⟨fun s v h => does_val rfl rfl (x_move) (h.same 0 rfl),
      fun s v h => does_call rfl rfl (x_call1 Try.call86) (rtwo_k (h.dep 0 rfl) (by omega) (Nat.le_refl _)),
      fun s v h => does_call rfl rfl (x_call2 Try.call59) (rmade_k rfl (h.dep 1 rfl) (by omega)),
      fun s v h => does_put_z rfl rfl ((h.same 2 rfl).trans p84) (h.dep 2 rfl).shape (h.mono.ok _ _ b87.ok2) h89, trivial⟩
  intro g90 ts v90 hts E90
  simp only [fillL, Nat.reduceAdd, List.setIfInBounds_toArray, List.set_cons_zero, List.set_cons_succ] at hts
  subst hts
  have T91 : Below w.heap.size w v90 := T82.trans E90.below
  have l92 : q83 < v81.heap.size := b87.lt
  have f96 : Cz v90 (g90 2) (zof false (2 ^ e)) := E90.facts 2 (by decide)
  obtain ⟨t97, x99, A100, m101, c102, e103, b98⟩ := put_info (E90.facts 3 (by decide)) p84 f96.shape
  have f104 : Cz v90 (.agg #[.bool x99, .slice A100 m101 c102]) (zof false (2 ^ e)) := f96.at e103.symm
  refine then_normal ?_
  refine wp_ret ?_
  exact bodyPost_ret (ret_c rfl p84 b98) rfl ⟨_, rfl, (by have := f104; exact this), T91⟩

theorem u64_nat {n : Nat} (h : n < 9007199254740992) : IntKind.u64.wrap (n : Int) = n := IntWalk.u64_in _ (by omega)
theorem fl_nat (a b : Nat) : fl (a : Int) (b : Int) = ((a / b : Nat) : Int) := by
  unfold fl
  rw [if_neg (by omega)]
  rfl
theorem md_nat (a b : Nat) : md (a : Int) (b : Int) = ((a % b : Nat) : Int) := by
  unfold md
  rw [fl_nat]
  have := Nat.div_add_mod a b
  rw [Nat.mul_comm] at this
  rw [← Int.natCast_mul]
  omega
theorem two_len (e : Nat) : (digs ((2 ^ e : Nat) : Int).natAbs).length ≤ e / 32 + 1 := by
  rw [Int.natAbs_natCast]
  refine digs_len_le ?_
  have h : (4294967296 : Nat) ^ (e / 32 + 1) = 2 ^ (32 * (e / 32 + 1)) := by rw [Nat.pow_mul]
  rw [h]
  exact Nat.pow_lt_pow_right (by omega) (by omega)
theorem sign_nat (n : Nat) : (((n : Nat) : Int).sign == 0) = (((digs n).length : Int) == 0) := by
  have h : (digs n).length = 0 ↔ n = 0 := ⟨fun e => (digs_nil_iff _).1 (List.eq_nil_of_length_eq_zero e), fun e => by rw [e, digs_zero]; rfl⟩
  cases h1 : (((n : Nat) : Int).sign == 0) with
  | true =>
    have := sign_eq_zero.1 h1
    have := h.2 (by omega)
    rw [this]; rfl
  | false =>
    have h2 : n ≠ 0 := fun e => by subst e; simp at h1
    have : (digs n).length ≠ 0 := fun e => h2 (h.1 e)
    symm
    exact beq_eq_false_iff_ne.2 (by omega)

set_option maxHeartbeats 4000000 in
set_option maxRecDepth 8000 in
theorem r2top_a {w : World} {x : Value} {z : Int} {N0 : Nat} (h0 : Az N0 w x z) {e : Nat} (hN0 : N0 ≤ 1000000000) (he : (blen z.natAbs : Int) - 53 = (e : Int)) (d : decide (53 < (blen z.natAbs : Int)) = true) (hq : Hid (z.natAbs / 2 ^ e < 9007199254740992)) (b : Bool) (hb : ((((z.natAbs % 2 ^ e : Nat) : Int)).sign == 0) = b)  : Calls Try.prog 23 #[x] w (Ret (.tup3 (.is (.int .u64 ((z.natAbs / 2 ^ e : Nat) : Int))) (.is (.int .i64 e)) (.is (.bool b))) w) := by
  have la0 := h0.len
  obtain ⟨na0, A0, n0, c0, M0, rfl, hm0, hz0⟩ := h0.parts
  have hMz : z.natAbs = M0 := by rw [← hz0, zof_abs]
  have hbl := blen_bits hm0.len
  rw [hMz] at he hq hb d ⊢
  have T0 : Below w.heap.size w w := Below.refl _ _
  go_enter Try.func23, Try.ntmps23
  refine wp_seq ?_
  have HB : w.heap.size ≤ w.heap.size := T0.size
  refine wp_plan_seq [.new 2 (some (24, #[.bool na0, .slice A0 n0 c0])), .val (.is (.int .u64 0)), .val (.is (.int .i64 0)), .val (.is (.bool false))] [] [] w.heap.size (by kernel_rfl) (by kernel_rfl) trivial HB ?_ ?_
  · exact ⟨fun s v h => does_new rfl rfl (x_box_z (h.same 0 rfl)) (okz _ _ _ _) rfl (.inr rfl),
      fun s v h => does_val rfl rfl (x_assign) rfl,
      fun s v h => does_val rfl rfl (x_assign) rfl,
      fun s v h => does_val rfl rfl (x_assign) rfl, trivial⟩
  intro g105 ts v105 hts E105
  simp only [fillL, Nat.reduceAdd, List.setIfInBounds_toArray, List.set_cons_zero, List.set_cons_succ] at hts
  subst hts
  have T106 : Below w.heap.size w v105 := T0.trans E105.below
  have f107 := h0.mono E105.mono
  obtain ⟨q112, p113, l114, o115, b116⟩ : ∃ q, g105 0 = .pointer (some ⟨q, 0, none⟩) ∧ w.heap.size ≤ q ∧ OkB v105 q 2 ∧ Bx v105 q 24 #[.bool na0, .slice A0 n0 c0] := E105.facts 0 (by decide)
  have h117 : w.heap.size ≤ q112 := Nat.le_trans HB l114
  refine then_normal ?_
  refine wp_seq ?_
  have HB : w.heap.size ≤ v105.heap.size := T106.size
  refine wp_plan_seq [.val (.is (.int .i64 0))] [] [] w.heap.size (by kernel_rfl) (by kernel_rfl) trivial HB ?_ ?_
  · exact ⟨fun s v h => does_val rfl rfl (x_assign) rfl, trivial⟩
  intro g118 ts v118 hts E118
  simp only [fillL, List.setIfInBounds_toArray, List.set_cons_zero, List.set_cons_succ] at hts
  subst hts
  have T119 : Below w.heap.size w v118 := T106.trans E118.below
  have l120 : q112 < v105.heap.size := b116.lt
  have b121 : Bx v118 q112 24 #[.bool na0, .slice A0 n0 c0] := (E118.far q112 b116.lt (by simp)).trans b116
  have f122 := f107.mono E118.mono
  refine then_normal ?_
  refine wp_seq ?_
  refine wp_seq ?_
  have HB : w.heap.size ≤ v118.heap.size := T119.size
  refine wp_plan_seq [.val (.az N0 z), .val (.is (.int .i64 (blen M0))), .val (.is (.bool true))] [] [] w.heap.size (by kernel_rfl) (by kernel_rfl) trivial HB ?_ ?_
  · exact ⟨fun s v h => does_val rfl rfl (x_load_z ((h.same 1 rfl).trans p113) ((h.far q112 b121.lt (by simp)).trans b121)) (f122.mono h.mono),
      fun s v h => does_call rfl rfl (x_call1 Try.call21) (hMz ▸ r2bits_k (h.dep 0 rfl)),
      fun s v h => does_val rfl rfl (x_gtr (h.dep 1 rfl) rfl) (congrArg Value.bool d), trivial⟩
  intro g125 ts v125 hts E125
  simp only [fillL, Nat.reduceAdd, List.setIfInBounds_toArray, List.set_cons_zero, List.set_cons_succ] at hts
  subst hts
  have T126 : Below w.heap.size w v125 := T119.trans E125.below
  have l127 : q112 < v118.heap.size := b121.lt
  have b128 : Bx v125 q112 24 #[.bool na0, .slice A0 n0 c0] := (E125.far q112 b121.lt (by simp)).trans b121
  have f129 := f122.mono E125.mono
  have e133 : g125 2 = (.bool true) := E125.facts 2 (by decide)
  refine then_normal ?_
  refine wp_cond_true e133 ?_
  have HB : w.heap.size ≤ v125.heap.size := T126.size
  refine wp_plan_seq [.val (.az N0 z), .val (.is (.int .i64 (blen M0))), .val (.is (.int .i64 e)), .val (.is (.int .i64 e))] [] [] w.heap.size (by kernel_rfl) (by kernel_rfl) trivial HB ?_ ?_
  · exact ⟨fun s v h => does_val rfl rfl (x_load_z ((h.same 1 rfl).trans p113) ((h.far q112 b128.lt (by simp)).trans b128)) (f129.mono h.mono),
      fun s v h => does_call rfl rfl (x_call1 Try.call21) (hMz ▸ r2bits_k (h.dep 0 rfl)),
      fun s v h => does_val rfl rfl (x_sub (h.dep 1 rfl) rfl (by rw [IntKind.wrap_i64]; omega)) (congrArg (Value.int .i64) he),
      fun s v h => does_val rfl rfl (x_assign) (h.dep 2 rfl), trivial⟩
  intro g134 ts v134 hts E134
  simp only [fillL, Nat.reduceAdd, List.setIfInBounds_toArray, List.set_cons_zero, List.set_cons_succ] at hts
  subst hts
  have T135 : Below w.heap.size w v134 := T126.trans E134.below
  have l136 : q112 < v125.heap.size := b128.lt
  have b137 : Bx v134 q112 24 #[.bool na0, .slice A0 n0 c0] := (E134.far q112 b128.lt (by simp)).trans b128
  have f138 := f129.mono E134.mono
  have e144 : g134 3 = (.int .i64 e) := E134.facts 3 (by decide)
  refine then_normal ?_
  refine wp_seq ?_
  have HB : w.heap.size ≤ v134.heap.size := T135.size
  refine wp_plan_seq [.val (.az N0 z), .val (.cz (M0 : Int)), .val (.is (.int .i64 e)), .val (.cz ((2 ^ e : Nat) : Int)), .val (.tup2 (.cz ((M0 / 2 ^ e : Nat) : Int)) (.cz ((M0 % 2 ^ e : Nat) : Int))), .val (.tup2 (.cz ((M0 / 2 ^ e : Nat) : Int)) (.cz ((M0 % 2 ^ e : Nat) : Int))), .val (.cz ((M0 / 2 ^ e : Nat) : Int)), .val (.cz ((M0 % 2 ^ e : Nat) : Int)), .new 2 none, .new 2 none, .put 6 22, .put 7 23] [] [] w.heap.size (by kernel_rfl) (by kernel_rfl) trivial HB ?_ ?_
  · exact ⟨fun s v h => does_val rfl rfl (x_load_z ((h.same 1 rfl).trans p113) ((h.far q112 b137.lt (by simp)).trans b137)) (f138.mono h.mono),
      fun s v h => does_call rfl rfl (x_call1 Try.call50) (hMz ▸ r2abs_k (h.dep 0 rfl) (by omega)),
      fun s v h => does_val rfl rfl (x_move) ((h.same 5 rfl).trans e144),
      fun s v h => does_call rfl rfl (x_call1 Try.call66) (r2two_k ((h.dep 2 rfl)) (by omega) (by omega)),
      fun s v h => does_call rfl rfl (x_call2 Try.call29) (fl_nat M0 (2 ^ e) ▸ md_nat M0 (2 ^ e) ▸ r2floor_k ((h.dep 1 rfl).az (N := N0) (by rw [Int.natAbs_natCast]; exact hm0.len)) ((h.dep 3 rfl).az (N := (e / 32 + 1)) (two_len e)) (by omega) (by omega) (by have := pow_pos2 e; omega)),
      fun s v h => does_val rfl rfl (x_move) (h.dep 4 rfl),
      fun s v h => by obtain ⟨r0, r1, e, f0, f1⟩ := tup2_at (h.dep 5 rfl); exact does_val rfl rfl (x_ext e rfl) f0,
      fun s v h => by obtain ⟨r0, r1, e, f0, f1⟩ := tup2_at (h.dep 5 rfl); exact does_val rfl rfl (x_ext e rfl) f1,
      fun s v h => does_new rfl rfl x_alloc_z (okz _ _ _ _) rfl (.inl rfl),
      fun s v h => does_new rfl rfl x_alloc_z (okz _ _ _ _) rfl (.inl rfl),
      fun s v h => by obtain ⟨q, e1, e2, e3⟩ := new_at (h.dep 8 rfl); exact does_put_z rfl rfl e1 (h.dep 6 rfl).shape e3 (Nat.le_trans HB e2),
      fun s v h => by obtain ⟨q, e1, e2, e3⟩ := new_at (h.dep 9 rfl); exact does_put_z rfl rfl e1 (h.dep 7 rfl).shape e3 (Nat.le_trans HB e2), trivial⟩
  intro g145 ts v145 hts E145
  simp only [fillL, Nat.reduceAdd, List.setIfInBounds_toArray, List.set_cons_zero, List.set_cons_succ] at hts
  subst hts
  have T146 : Below w.heap.size w v145 := T135.trans E145.below
  have l147 : q112 < v134.heap.size := b137.lt
  have b148 : Bx v145 q112 24 #[.bool na0, .slice A0 n0 c0] := (E145.far q112 b137.lt (by simp)).trans b137
  have f157 : Cz v145 (g145 6) ((M0 / 2 ^ e : Nat) : Int) := E145.facts 6 (by decide)
  have f158 : Cz v145 (g145 7) ((M0 % 2 ^ e : Nat) : Int) := E145.facts 7 (by decide)
  obtain ⟨q159, p160, l161, o162⟩ : ∃ q, g145 8 = .pointer (some ⟨q, 0, none⟩) ∧ v134.heap.size ≤ q ∧ OkB v145 q 2 := E145.facts 8 (by decide)
  have h163 : w.heap.size ≤ q159 := Nat.le_trans HB l161
  obtain ⟨q165, p166, l167, o168⟩ : ∃ q, g145 9 = .pointer (some ⟨q, 0, none⟩) ∧ v134.heap.size ≤ q ∧ OkB v145 q 2 := E145.facts 9 (by decide)
  have h169 : w.heap.size ≤ q165 := Nat.le_trans HB l167
  obtain ⟨t172, x174, A175, m176, c177, e178, b173⟩ := put_info (E145.facts 10 (by decide)) p160 f157.shape
  have f179 : Cz v145 (.agg #[.bool x174, .slice A175 m176 c177]) ((M0 / 2 ^ e : Nat) : Int) := f157.at e178.symm
  obtain ⟨t180, x182, A183, m184, c185, e186, b181⟩ := put_info (E145.facts 11 (by decide)) p166 f158.shape
  have f187 : Cz v145 (.agg #[.bool x182, .slice A183 m184 c185]) ((M0 % 2 ^ e : Nat) : Int) := f158.at e186.symm
  refine then_normal ?_
  refine wp_seq ?_
  have HB : w.heap.size ≤ v145.heap.size := T146.size
  refine wp_plan_seq [.val (.cz ((M0 / 2 ^ e : Nat) : Int)), .val (.tup2 (.is (.int .i64 ((M0 / 2 ^ e : Nat) : Int))) (.is (.bool true))), .val (.tup2 (.is (.int .i64 ((M0 / 2 ^ e : Nat) : Int))) (.is (.bool true))), .val (.is (.int .i64 ((M0 / 2 ^ e : Nat) : Int))), .val (.is (.bool true)), .val (.is (.int .i64 ((M0 / 2 ^ e : Nat) : Int))), .val (.is (.bool true))] [] [] w.heap.size (by kernel_rfl) (by kernel_rfl) trivial HB ?_ ?_
  · exact ⟨fun s v h => does_val rfl rfl (x_load_z ((h.same 6 rfl).trans p160) ((h.far q159 b173.lt (by simp)).trans b173)) (f179.mono h.mono),
      fun s v h => does_call rfl rfl (x_call1 Try.call67) (r2small_k (h.dep 0 rfl) (Int.natCast_nonneg _) (by have := hq.out; omega)),
      fun s v h => does_val rfl rfl (x_move) (h.dep 1 rfl),
      fun s v h => by obtain ⟨r0, r1, e, f0, f1⟩ := tup2_at (h.dep 2 rfl); exact does_val rfl rfl (x_ext e rfl) f0,
      fun s v h => by obtain ⟨r0, r1, e, f0, f1⟩ := tup2_at (h.dep 2 rfl); exact does_val rfl rfl (x_ext e rfl) f1,
      fun s v h => does_val rfl rfl (x_assign) (h.dep 3 rfl),
      fun s v h => does_val rfl rfl (x_assign) (h.dep 4 rfl), trivial⟩
  intro g188 ts v188 hts E188
  simp only [fillL, Nat.reduceAdd, List.setIfInBounds_toArray, List.set_cons_zero, List.set_cons_succ] at hts
  subst hts
  have T189 : Below w.heap.size w v188 := T146.trans E188.below
  have l190 : q112 < v145.heap.size := b148.lt
  have l191 : q159 < v145.heap.size := b173.lt
  have l192 : q165 < v145.heap.size := b181.lt
  have b193 : Bx v188 q112 24 #[.bool na0, .slice A0 n0 c0] := (E188.far q112 b148.lt (by simp)).trans b148
  have b194 : Bx v188 q159 t172 #[.bool x174, .slice A175 m176 c177] := (E188.far q159 b173.lt (by simp)).trans b173
  have b195 : Bx v188 q165 t180 #[.bool x182, .slice A183 m184 c185] := (E188.far q165 b181.lt (by simp)).trans b181
  have f206 := f187.mono E188.mono
  have e210 : g188 5 = (.int .i64 ((M0 / 2 ^ e : Nat) : Int)) := E188.facts 5 (by decide)
  refine then_normal ?_
  refine wp_seq ?_
  have HB : w.heap.size ≤ v188.heap.size := T189.size
  refine wp_plan_seq [.val (.is (.int .i64 ((M0 / 2 ^ e : Nat) : Int))), .val (.is (.int .u64 ((M0 / 2 ^ e : Nat) : Int))), .val (.is (.int .i64 e)), .val (.cz ((M0 % 2 ^ e : Nat) : Int)), .val (.is (.int .i64 ((M0 % 2 ^ e : Nat) : Int).sign)), .val (.is (.bool b)), .val (.is (.int .u64 ((M0 / 2 ^ e : Nat) : Int))), .val (.is (.int .i64 e)), .val (.is (.bool b))] [] [] w.heap.size (by kernel_rfl) (by kernel_rfl) trivial HB ?_ ?_
  · exact ⟨fun s v h => does_val rfl rfl (x_move) ((h.same 8 rfl).trans e210),
      fun s v h => does_val rfl rfl (x_conv_64 (h.dep 0 rfl) (u64_nat (by have := hq.out; omega))) rfl,
      fun s v h => does_val rfl rfl (x_move) ((h.same 5 rfl).trans e144),
      fun s v h => does_val rfl rfl (x_load_z ((h.same 7 rfl).trans p166) ((h.far q165 b195.lt (by simp)).trans b195)) (f206.mono h.mono),
      fun s v h => does_call rfl rfl (x_call1 Try.call28) (r2sign_k ((h.dep 3 rfl).az (N := N0) (by rw [Int.natAbs_natCast]; exact Nat.le_trans (dl_le (Nat.mod_le M0 (2 ^ e))) hm0.len)) (by omega)),
      fun s v h => does_val rfl rfl (x_eql_int (h.dep 4 rfl) rfl) (congrArg Value.bool hb),
      fun s v h => does_val rfl rfl (x_assign) (h.dep 1 rfl),
      fun s v h => does_val rfl rfl (x_assign) (h.dep 2 rfl),
      fun s v h => does_val rfl rfl (x_assign) (h.dep 5 rfl), trivial⟩
  intro g212 ts v212 hts E212
  simp only [fillL, Nat.reduceAdd, List.setIfInBounds_toArray, List.set_cons_zero, List.set_cons_succ] at hts
  subst hts
  have T213 : Below w.heap.size w v212 := T189.trans E212.below
  have l214 : q112 < v188.heap.size := b193.lt
  have l215 : q159 < v188.heap.size := b194.lt
  have l216 : q165 < v188.heap.size := b195.lt
  have e238 : g212 6 = (.int .u64 ((M0 / 2 ^ e : Nat) : Int)) := E212.facts 6 (by decide)
  have e239 : g212 7 = (.int .i64 e) := E212.facts 7 (by decide)
  have e240 : g212 8 = (.bool b) := E212.facts 8 (by decide)
  refine then_normal ?_
  refine wp_ret ?_
  exact bodyPost_ret (results_tmp3 (t := 2) (u := 3) (v := 4) rfl _ _ _) rfl ⟨_, rfl, ⟨_, _, _, rfl, e238, e239, e240⟩, T213⟩

set_option maxHeartbeats 4000000 in
set_option maxRecDepth 8000 in
theorem r2top_b {w : World} {x : Value} {z : Int} {N0 : Nat} (h0 : Az N0 w x z) {e : Nat} (hN0 : N0 ≤ 1000000000) (he0 : e = 0) (d : decide (53 < (blen z.natAbs : Int)) = false) (hq : Hid (z.natAbs / 2 ^ e < 9007199254740992)) (b : Bool) (hb : ((((z.natAbs % 2 ^ e : Nat) : Int)).sign == 0) = b)  : Calls Try.prog 23 #[x] w (Ret (.tup3 (.is (.int .u64 ((z.natAbs / 2 ^ e : Nat) : Int))) (.is (.int .i64 e)) (.is (.bool b))) w) := by
  have la0 := h0.len
  obtain ⟨na0, A0, n0, c0, M0, rfl, hm0, hz0⟩ := h0.parts
  have hMz : z.natAbs = M0 := by rw [← hz0, zof_abs]
  rw [hMz] at hq hb d ⊢
  have T0 : Below w.heap.size w w := Below.refl _ _
  go_enter Try.func23, Try.ntmps23
  refine wp_seq ?_
  have HB : w.heap.size ≤ w.heap.size := T0.size
  refine wp_plan_seq [.new 2 (some (24, #[.bool na0, .slice A0 n0 c0])), .val (.is (.int .u64 0)), .val (.is (.int .i64 0)), .val (.is (.bool false))] [] [] w.heap.size (by kernel_rfl) (by kernel_rfl) trivial HB ?_ ?_
  · exact ⟨fun s v h => does_new rfl rfl (x_box_z (h.same 0 rfl)) (okz _ _ _ _) rfl (.inr rfl),
      fun s v h => does_val rfl rfl (x_assign) rfl,
      fun s v h => does_val rfl rfl (x_assign) rfl,
      fun s v h => does_val rfl rfl (x_assign) rfl, trivial⟩
  intro g241 ts v241 hts E241
  simp only [fillL, Nat.reduceAdd, List.setIfInBounds_toArray, List.set_cons_zero, List.set_cons_succ] at hts
  subst hts
  have T242 : Below w.heap.size w v241 := T0.trans E241.below
  have f243 := h0.mono E241.mono
  obtain ⟨q248, p249, l250, o251, b252⟩ : ∃ q, g241 0 = .pointer (some ⟨q, 0, none⟩) ∧ w.heap.size ≤ q ∧ OkB v241 q 2 ∧ Bx v241 q 24 #[.bool na0, .slice A0 n0 c0] := E241.facts 0 (by decide)
  have h253 : w.heap.size ≤ q248 := Nat.le_trans HB l250
  refine then_normal ?_
  refine wp_seq ?_
  have HB : w.heap.size ≤ v241.heap.size := T242.size
  refine wp_plan_seq [.val (.is (.int .i64 0))] [] [] w.heap.size (by kernel_rfl) (by kernel_rfl) trivial HB ?_ ?_
  · exact ⟨fun s v h => does_val rfl rfl (x_assign) rfl, trivial⟩
  intro g254 ts v254 hts E254
  simp only [fillL, List.setIfInBounds_toArray, List.set_cons_zero, List.set_cons_succ] at hts
  subst hts
  have T255 : Below w.heap.size w v254 := T242.trans E254.below
  have l256 : q248 < v241.heap.size := b252.lt
  have b257 : Bx v254 q248 24 #[.bool na0, .slice A0 n0 c0] := (E254.far q248 b252.lt (by simp)).trans b252
  have f258 := f243.mono E254.mono
  have e260 : g254 0 = (.int .i64 0) := E254.facts 0 (by decide)
  refine then_normal ?_
  refine wp_seq ?_
  refine wp_seq ?_
  have HB : w.heap.size ≤ v254.heap.size := T255.size
  refine wp_plan_seq [.val (.az N0 z), .val (.is (.int .i64 (blen M0))), .val (.is (.bool false))] [] [] w.heap.size (by kernel_rfl) (by kernel_rfl) trivial HB ?_ ?_
  · exact ⟨fun s v h => does_val rfl rfl (x_load_z ((h.same 1 rfl).trans p249) ((h.far q248 b257.lt (by simp)).trans b257)) (f258.mono h.mono),
      fun s v h => does_call rfl rfl (x_call1 Try.call21) (hMz ▸ r2bits_k (h.dep 0 rfl)),
      fun s v h => does_val rfl rfl (x_gtr (h.dep 1 rfl) rfl) (congrArg Value.bool d), trivial⟩
  intro g261 ts v261 hts E261
  simp only [fillL, Nat.reduceAdd, List.setIfInBounds_toArray, List.set_cons_zero, List.set_cons_succ] at hts
  subst hts
  have T262 : Below w.heap.size w v261 := T255.trans E261.below
  have l263 : q248 < v254.heap.size := b257.lt
  have b264 : Bx v261 q248 24 #[.bool na0, .slice A0 n0 c0] := (E261.far q248 b257.lt (by simp)).trans b257
  have f265 := f258.mono E261.mono
  have e269 : g261 2 = (.bool false) := E261.facts 2 (by decide)
  refine then_normal ?_
  refine wp_cond_false e269 ?_
  refine wp_skip ?_
  refine then_normal ?_
  refine wp_seq ?_
  have HB : w.heap.size ≤ v261.heap.size := T262.size
  refine wp_plan_seq [.val (.az N0 z), .val (.cz (M0 : Int)), .val (.is (.int .i64 0)), .val (.cz ((2 ^ e : Nat) : Int)), .val (.tup2 (.cz ((M0 / 2 ^ e : Nat) : Int)) (.cz ((M0 % 2 ^ e : Nat) : Int))), .val (.tup2 (.cz ((M0 / 2 ^ e : Nat) : Int)) (.cz ((M0 % 2 ^ e : Nat) : Int))), .val (.cz ((M0 / 2 ^ e : Nat) : Int)), .val (.cz ((M0 % 2 ^ e : Nat) : Int)), .new 2 none, .new 2 none, .put 6 22, .put 7 23] [] [] w.heap.size (by kernel_rfl) (by kernel_rfl) trivial HB ?_ ?_
  · exact ⟨fun s v h => does_val rfl rfl (x_load_z ((h.same 1 rfl).trans p249) ((h.far q248 b264.lt (by simp)).trans b264)) (f265.mono h.mono),
      fun s v h => does_call rfl rfl (x_call1 Try.call50) (hMz ▸ r2abs_k (h.dep 0 rfl) (by omega)),
      fun s v h => does_val rfl rfl (x_move) ((h.same 5 rfl).trans e260),
      fun s v h => does_call rfl rfl (x_call1 Try.call66) (r2two_k (((h.dep 2 rfl)).trans (by rw [he0]; rfl)) (by omega) (by omega)),
      fun s v h => does_call rfl rfl (x_call2 Try.call29) (fl_nat M0 (2 ^ e) ▸ md_nat M0 (2 ^ e) ▸ r2floor_k ((h.dep 1 rfl).az (N := N0) (by rw [Int.natAbs_natCast]; exact hm0.len)) ((h.dep 3 rfl).az (N := (e / 32 + 1)) (two_len e)) (by omega) (by omega) (by have := pow_pos2 e; omega)),
      fun s v h => does_val rfl rfl (x_move) (h.dep 4 rfl),
      fun s v h => by obtain ⟨r0, r1, e, f0, f1⟩ := tup2_at (h.dep 5 rfl); exact does_val rfl rfl (x_ext e rfl) f0,
      fun s v h => by obtain ⟨r0, r1, e, f0, f1⟩ := tup2_at (h.dep 5 rfl); exact does_val rfl rfl (x_ext e rfl) f1,
      fun s v h => does_new rfl rfl x_alloc_z (okz _ _ _ _) rfl (.inl rfl),
      fun s v h => does_new rfl rfl x_alloc_z (okz _ _ _ _) rfl (.inl rfl),
      fun s v h => by obtain ⟨q, e1, e2, e3⟩ := new_at (h.dep 8 rfl); exact does_put_z rfl rfl e1 (h.dep 6 rfl).shape e3 (Nat.le_trans HB e2),
      fun s v h => by obtain ⟨q, e1, e2, e3⟩ := new_at (h.dep 9 rfl); exact does_put_z rfl rfl e1 (h.dep 7 rfl).shape e3 (Nat.le_trans HB e2), trivial⟩
  intro g270 ts v270 hts E270
  simp only [fillL, Nat.reduceAdd, List.setIfInBounds_toArray, List.set_cons_zero, List.set_cons_succ] at hts
  subst hts
  have T271 : Below w.heap.size w v270 := T262.trans E270.below
  have l272 : q248 < v261.heap.size := b264.lt
  have b273 : Bx v270 q248 24 #[.bool na0, .slice A0 n0 c0] := (E270.far q248 b264.lt (by simp)).trans b264
  have f281 : Cz v270 (g270 6) ((M0 / 2 ^ e : Nat) : Int) := E270.facts 6 (by decide)
  have f282 : Cz v270 (g270 7) ((M0 % 2 ^ e : Nat) : Int) := E270.facts 7 (by decide)
  obtain ⟨q283, p284, l285, o286⟩ : ∃ q, g270 8 = .pointer (some ⟨q, 0, none⟩) ∧ v261.heap.size ≤ q ∧ OkB v270 q 2 := E270.facts 8 (by decide)
  have h287 : w.heap.size ≤ q283 := Nat.le_trans HB l285
  obtain ⟨q289, p290, l291, o292⟩ : ∃ q, g270 9 = .pointer (some ⟨q, 0, none⟩) ∧ v261.heap.size ≤ q ∧ OkB v270 q 2 := E270.facts 9 (by decide)
  have h293 : w.heap.size ≤ q289 := Nat.le_trans HB l291
  obtain ⟨t296, x298, A299, m300, c301, e302, b297⟩ := put_info (E270.facts 10 (by decide)) p284 f281.shape
  have f303 : Cz v270 (.agg #[.bool x298, .slice A299 m300 c301]) ((M0 / 2 ^ e : Nat) : Int) := f281.at e302.symm
  obtain ⟨t304, x306, A307, m308, c309, e310, b305⟩ := put_info (E270.facts 11 (by decide)) p290 f282.shape
  have f311 : Cz v270 (.agg #[.bool x306, .slice A307 m308 c309]) ((M0 % 2 ^ e : Nat) : Int) := f282.at e310.symm
  refine then_normal ?_
  refine wp_seq ?_
  have HB : w.heap.size ≤ v270.heap.size := T271.size
  refine wp_plan_seq [.val (.cz ((M0 / 2 ^ e : Nat) : Int)), .val (.tup2 (.is (.int .i64 ((M0 / 2 ^ e : Nat) : Int))) (.is (.bool true))), .val (.tup2 (.is (.int .i64 ((M0 / 2 ^ e : Nat) : Int))) (.is (.bool true))), .val (.is (.int .i64 ((M0 / 2 ^ e : Nat) : Int))), .val (.is (.bool true)), .val (.is (.int .i64 ((M0 / 2 ^ e : Nat) : Int))), .val (.is (.bool true))] [] [] w.heap.size (by kernel_rfl) (by kernel_rfl) trivial HB ?_ ?_
  · exact ⟨fun s v h => does_val rfl rfl (x_load_z ((h.same 6 rfl).trans p284) ((h.far q283 b297.lt (by simp)).trans b297)) (f303.mono h.mono),
      fun s v h => does_call rfl rfl (x_call1 Try.call67) (r2small_k (h.dep 0 rfl) (Int.natCast_nonneg _) (by have := hq.out; omega)),
      fun s v h => does_val rfl rfl (x_move) (h.dep 1 rfl),
      fun s v h => by obtain ⟨r0, r1, e, f0, f1⟩ := tup2_at (h.dep 2 rfl); exact does_val rfl rfl (x_ext e rfl) f0,
      fun s v h => by obtain ⟨r0, r1, e, f0, f1⟩ := tup2_at (h.dep 2 rfl); exact does_val rfl rfl (x_ext e rfl) f1,
      fun s v h => does_val rfl rfl (x_assign) (h.dep 3 rfl),
      fun s v h => does_val rfl rfl (x_assign) (h.dep 4 rfl), trivial⟩
  intro g312 ts v312 hts E312
  simp only [fillL, Nat.reduceAdd, List.setIfInBounds_toArray, List.set_cons_zero, List.set_cons_succ] at hts
  subst hts
  have T313 : Below w.heap.size w v312 := T271.trans E312.below
  have l314 : q248 < v270.heap.size := b273.lt
  have l315 : q283 < v270.heap.size := b297.lt
  have l316 : q289 < v270.heap.size := b305.lt
  have b317 : Bx v312 q248 24 #[.bool na0, .slice A0 n0 c0] := (E312.far q248 b273.lt (by simp)).trans b273
  have b318 : Bx v312 q283 t296 #[.bool x298, .slice A299 m300 c301] := (E312.far q283 b297.lt (by simp)).trans b297
  have b319 : Bx v312 q289 t304 #[.bool x306, .slice A307 m308 c309] := (E312.far q289 b305.lt (by simp)).trans b305
  have f329 := f311.mono E312.mono
  have e333 : g312 5 = (.int .i64 ((M0 / 2 ^ e : Nat) : Int)) := E312.facts 5 (by decide)
  refine then_normal ?_
  refine wp_seq ?_
  have HB : w.heap.size ≤ v312.heap.size := T313.size
  refine wp_plan_seq [.val (.is (.int .i64 ((M0 / 2 ^ e : Nat) : Int))), .val (.is (.int .u64 ((M0 / 2 ^ e : Nat) : Int))), .val (.is (.int .i64 0)), .val (.cz ((M0 % 2 ^ e : Nat) : Int)), .val (.is (.int .i64 ((M0 % 2 ^ e : Nat) : Int).sign)), .val (.is (.bool b)), .val (.is (.int .u64 ((M0 / 2 ^ e : Nat) : Int))), .val (.is (.int .i64 0)), .val (.is (.bool b))] [] [] w.heap.size (by kernel_rfl) (by kernel_rfl) trivial HB ?_ ?_
  · exact ⟨fun s v h => does_val rfl rfl (x_move) ((h.same 8 rfl).trans e333),
      fun s v h => does_val rfl rfl (x_conv_64 (h.dep 0 rfl) (u64_nat (by have := hq.out; omega))) rfl,
      fun s v h => does_val rfl rfl (x_move) ((h.same 5 rfl).trans e260),
      fun s v h => does_val rfl rfl (x_load_z ((h.same 7 rfl).trans p290) ((h.far q289 b319.lt (by simp)).trans b319)) (f329.mono h.mono),
      fun s v h => does_call rfl rfl (x_call1 Try.call28) (r2sign_k ((h.dep 3 rfl).az (N := N0) (by rw [Int.natAbs_natCast]; exact Nat.le_trans (dl_le (Nat.mod_le M0 (2 ^ e))) hm0.len)) (by omega)),
      fun s v h => does_val rfl rfl (x_eql_int (h.dep 4 rfl) rfl) (congrArg Value.bool hb),
      fun s v h => does_val rfl rfl (x_assign) (h.dep 1 rfl),
      fun s v h => does_val rfl rfl (x_assign) (h.dep 2 rfl),
      fun s v h => does_val rfl rfl (x_assign) (h.dep 5 rfl), trivial⟩
  intro g335 ts v335 hts E335
  simp only [fillL, Nat.reduceAdd, List.setIfInBounds_toArray, List.set_cons_zero, List.set_cons_succ] at hts
  subst hts
  have T336 : Below w.heap.size w v335 := T313.trans E335.below
  have l337 : q248 < v312.heap.size := b317.lt
  have l338 : q283 < v312.heap.size := b318.lt
  have l339 : q289 < v312.heap.size := b319.lt
  have e360 : g335 6 = (.int .u64 ((M0 / 2 ^ e : Nat) : Int)) := E335.facts 6 (by decide)
  have e361 : g335 7 = (.int .i64 0) := E335.facts 7 (by decide)
  have e362 : g335 8 = (.bool b) := E335.facts 8 (by decide)
  refine then_normal ?_
  refine wp_ret ?_
  exact bodyPost_ret (results_tmp3 (t := 2) (u := 3) (v := 4) rfl _ _ _) rfl ⟨_, rfl, ⟨_, _, _, rfl, e360, (by have := e361; rw [he0]; exact this), e362⟩, T336⟩

end Go.Proofs.Ytkidgeeedigkhaa
