
/- Functions of ref02 and zint without loops. -/
import Derived.Test.YtdmahjbjlppeaaaA6
namespace Go.Proofs.Ytdmahjbjlppeaaa
open Go.RowKit

set_option maxHeartbeats 4000000 in
set_option maxRecDepth 8000 in
theorem zgcd_k {w : World} {x : Value} {z : Int} {N0 : Nat} (h0 : Az N0 w x z) {y : Value} {u : Int} {N1 : Nat} (h1 : Az N1 w y u) (hN0 : N0 ≤ 35184372088829) (hN1 : N1 ≤ 35184372088829)  : Calls Try.prog 79 #[x, y] w (Ret (.cz (Int.gcd z u : Int)) w) := by
  have la0 := h0.len
  obtain ⟨na0, A0, n0, c0, M0, rfl, hm0, hz0⟩ := h0.parts
  have la1 := h1.len
  obtain ⟨na1, A1, n1, c1, M1, rfl, hm1, hz1⟩ := h1.parts
  have T0 : Below w.heap.size w w := Below.refl _ _
  go_enter Try.func79, Try.ntmps79
  refine wp_seq ?_
  have HB : w.heap.size ≤ w.heap.size := T0.size
  refine wp_plan_seq [.new 2 (some (24, #[.bool na0, .slice A0 n0 c0])), .new 2 (some (24, #[.bool na1, .slice A1 n1 c1])), .new 2 (some (24, #[.bool false, .slice none 0 0]))] [] [] w.heap.size (by kernel_rfl) (by kernel_rfl) trivial HB ?_ ?_
  · exact ⟨fun s v h => does_new rfl rfl (x_box_z (h.same 0 rfl)) (okz _ _ _ _) rfl (.inr rfl),
      fun s v h => does_new rfl rfl (x_box_z (h.same 1 rfl)) (okz _ _ _ _) rfl (.inr rfl),
      fun s v h => does_new rfl rfl x_alloc_z (okz _ _ _ _) rfl (.inr rfl), trivial⟩
  intro g585 ts v585 hts E585
  simp only [fillL, Nat.reduceAdd, List.setIfInBounds_toArray, List.set_cons_zero, List.set_cons_succ] at hts
  subst hts
  have T586 : Below w.heap.size w v585 := T0.trans E585.below
  have f588 := hm0.mono E585.mono
  have f590 := hm1.mono E585.mono
  obtain ⟨q591, p592, l593, o594, b595⟩ : ∃ q, g585 0 = .pointer (some ⟨q, 0, none⟩) ∧ w.heap.size ≤ q ∧ OkB v585 q 2 ∧ Bx v585 q 24 #[.bool na0, .slice A0 n0 c0] := E585.facts 0 (by decide)
  have h596 : w.heap.size ≤ q591 := Nat.le_trans HB l593
  obtain ⟨q597, p598, l599, o600, b601⟩ : ∃ q, g585 1 = .pointer (some ⟨q, 0, none⟩) ∧ w.heap.size ≤ q ∧ OkB v585 q 2 ∧ Bx v585 q 24 #[.bool na1, .slice A1 n1 c1] := E585.facts 1 (by decide)
  have h602 : w.heap.size ≤ q597 := Nat.le_trans HB l599
  obtain ⟨q604, p605, l606, o607, b608⟩ : ∃ q, g585 2 = .pointer (some ⟨q, 0, none⟩) ∧ w.heap.size ≤ q ∧ OkB v585 q 2 ∧ Bx v585 q 24 #[.bool false, .slice none 0 0] := E585.facts 2 (by decide)
  have h610 : w.heap.size ≤ q604 := Nat.le_trans HB l606
  have n611 : q591 ≠ q604 := E585.apart 0 2 (by decide) (by decide) (by decide) ⟨_, _, _, rfl⟩ ⟨_, _, _, rfl⟩ none _ none _ p592 p605
  have n612 : q597 ≠ q604 := E585.apart 1 2 (by decide) (by decide) (by decide) ⟨_, _, _, rfl⟩ ⟨_, _, _, rfl⟩ none _ none _ p598 p605
  refine then_normal ?_
  refine wp_seq ?_
  have HB : w.heap.size ≤ v585.heap.size := T586.size
  refine wp_plan_seq [.val (.is (.pointer (some ⟨q591, 1, none⟩))), .val (.nz N0 M0), .val (.is (.pointer (some ⟨q597, 1, none⟩))), .val (.nz N1 M1), .val (.nz (N0 + N1) (Nat.gcd M0 M1)), .val (.cz (zof false (Nat.gcd M0 M1))), .put 4 10] [4] [q604] w.heap.size (by kernel_rfl) (by kernel_rfl) ⟨p605, b608.lt, (by simp), trivial⟩ HB ?_ ?_
  · exact ⟨fun s v h => does_val rfl rfl (x_fld (by decide) ((h.same 2 rfl).trans p592)) rfl,
      fun s v h => does_val rfl rfl (x_load_s (h.dep 0 rfl) ((h.far q591 b595.lt (nin1 n611)).trans b595)) (f588.mono h.mono),
      fun s v h => does_val rfl rfl (x_fld (by decide) ((h.same 3 rfl).trans p598)) rfl,
      fun s v h => does_val rfl rfl (x_load_s (h.dep 2 rfl) ((h.far q597 b601.lt (nin1 n612)).trans b601)) (f590.mono h.mono),
      fun s v h => does_call rfl rfl (x_call2 Try.call108) (ngcd_k (h.dep 1 rfl) (h.dep 3 rfl) (by omega) (by omega) (by omega) (by omega)),
      fun s v h => does_call rfl rfl (x_call2 Try.call76) (zmade_k rfl (h.dep 4 rfl)),
      fun s v h => does_put_z rfl rfl ((h.same 4 rfl).trans p605) (h.dep 5 rfl).shape (h.mono.ok _ _ b608.ok2) h610, trivial⟩
  intro g613 ts v613 hts E613
  simp only [fillL, Nat.reduceAdd, List.setIfInBounds_toArray, List.set_cons_zero, List.set_cons_succ] at hts
  subst hts
  have T614 : Below w.heap.size w v613 := T586.trans E613.below
  have l615 : q591 < v585.heap.size := b595.lt
  have l616 : q597 < v585.heap.size := b601.lt
  have l617 : q604 < v585.heap.size := b608.lt
  have f628 : Cz v613 (g613 5) (zof false (Nat.gcd M0 M1)) := E613.facts 5 (by decide)
  obtain ⟨t629, x631, A632, m633, c634, e635, b630⟩ := put_info (E613.facts 6 (by decide)) p605 f628.shape
  have f636 : Cz v613 (.agg #[.bool x631, .slice A632 m633 c634]) (zof false (Nat.gcd M0 M1)) := f628.at e635.symm
  refine then_normal ?_
  refine wp_ret ?_
  exact bodyPost_ret (ret_c rfl p605 b630) rfl ⟨_, rfl, (by have := f636; rw [← hz0, ← hz1]; unfold Int.gcd; rw [zof_abs, zof_abs]; exact this), T614⟩

end Go.Proofs.Ytdmahjbjlppeaaa
