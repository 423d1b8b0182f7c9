
/- The reference of rationals. -/
import Derived.Test.YtdmahjbjlppeaaaQ1
namespace Go.Proofs.Ytdmahjbjlppeaaa
open Go.RowKit

set_option maxHeartbeats 4000000 in
set_option maxRecDepth 8000 in
theorem r3valid_k {w : World} {x : Value} {p q : Int} {N0 : Nat} (h0 : Rz N0 w x p q) (hN0 : N0 ≤ 100000000)  : Calls Try.prog 65 #[x] w (Ret (.is (.bool (decide (0 < q.sign)))) w) := by
  obtain ⟨na0, A0, n0, c0, nb0, B0, m0, d0, e0r, hx0, hy0⟩ := Rz.parts h0
  subst e0r
  have la0 := hx0.len
  have lb0 := hy0.len
  have T0 : Below w.heap.size w w := Below.refl _ _
  go_enter Try.func65, Try.ntmps65
  refine wp_seq ?_
  have HB : w.heap.size ≤ w.heap.size := T0.size
  refine wp_plan_seq [.new 4 (some (29, #[.bool na0, .slice A0 n0 c0, .bool nb0, .slice B0 m0 d0])), .val (.is (.bool false))] [] [] w.heap.size (by kernel_rfl) (by kernel_rfl) trivial HB ?_ ?_
  · exact ⟨fun s v h => does_new rfl rfl (x_box_r (h.same 0 rfl)) (okr _ _ _ _ _ _ _ _) rfl (.inr rfl),
      fun s v h => does_val rfl rfl (x_assign) rfl, trivial⟩
  intro g758 ts v758 hts E758
  simp only [fillL, Nat.reduceAdd, List.setIfInBounds_toArray, List.set_cons_zero, List.set_cons_succ] at hts
  subst hts
  have T759 : Below w.heap.size w v758 := T0.trans E758.below
  have f760 := (pair_mono h0 E758.mono)
  obtain ⟨q762, p763, l764, o765, b766⟩ : ∃ q, g758 0 = .pointer (some ⟨q, 0, none⟩) ∧ w.heap.size ≤ q ∧ OkB v758 q 4 ∧ Bx v758 q 29 #[.bool na0, .slice A0 n0 c0, .bool nb0, .slice B0 m0 d0] := E758.facts 0 (by decide)
  have h767 : w.heap.size ≤ q762 := Nat.le_trans HB l764
  refine then_normal ?_
  refine wp_seq ?_
  have HB : w.heap.size ≤ v758.heap.size := T759.size
  refine wp_plan_seq [.val (.is (.pointer (some ⟨q762, 2, none⟩))), .val (.az N0 q), .val (.is (.int .i64 q.sign)), .val (.is (.bool (decide (0 < q.sign)))), .val (.is (.bool (decide (0 < q.sign))))] [] [] w.heap.size (by kernel_rfl) (by kernel_rfl) trivial HB ?_ ?_
  · exact ⟨fun s v h => does_val rfl rfl (x_fld_r1 ((h.same 1 rfl).trans p763)) rfl,
      fun s v h => does_val rfl rfl (x_load_r1 (h.dep 0 rfl) ((h.far q762 b766.lt (by simp)).trans b766)) (pair_snd (pair_mono f760 h.mono)),
      fun s v h => does_call rfl rfl (x_call1 Try.call14) (r2sign_k (h.dep 1 rfl) (by omega)),
      fun s v h => does_val rfl rfl (x_gtr (h.dep 2 rfl) rfl) rfl,
      fun s v h => does_val rfl rfl (x_assign) (h.dep 3 rfl), trivial⟩
  intro g768 ts v768 hts E768
  simp only [fillL, Nat.reduceAdd, List.setIfInBounds_toArray, List.set_cons_zero, List.set_cons_succ] at hts
  subst hts
  have T769 : Below w.heap.size w v768 := T759.trans E768.below
  have l770 : q762 < v758.heap.size := b766.lt
  have e776 : g768 4 = (.bool (decide (0 < q.sign))) := E768.facts 4 (by decide)
  refine then_normal ?_
  refine wp_ret ?_
  exact bodyPost_ret (results_tmp (t := 2) rfl _ _ _) rfl ⟨_, rfl, e776, T769⟩

end Go.Proofs.Ytdmahjbjlppeaaa
