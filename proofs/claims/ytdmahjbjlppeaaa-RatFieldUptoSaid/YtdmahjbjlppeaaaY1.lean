
/- Functions of ref02 and zint without loops. -/
import Derived.Test.YtdmahjbjlppeaaaA6
namespace Go.Proofs.Ytdmahjbjlppeaaa
open Go.RowKit

set_option maxHeartbeats 4000000 in
set_option maxRecDepth 8000 in
theorem r2norm_k {w : World} {x : Value} {z : Int} {N0 : Nat} (h0 : Az N0 w x z) (hN0 : N0 ≤ 35184372088832)  : Calls Try.prog 47 #[x] w (Ret (.cz z) w) := by
  have la0 := h0.len
  obtain ⟨na0, A0, n0, c0, M0, rfl, hm0, hz0⟩ := h0.parts
  have T0 : Below w.heap.size w w := Below.refl _ _
  go_enter Try.func47, Try.ntmps47
  refine wp_seq ?_
  have HB : w.heap.size ≤ w.heap.size := T0.size
  refine wp_plan_seq [.new 2 (some (24, #[.bool na0, .slice A0 n0 c0])), .new 2 (some (24, #[.bool false, .slice none 0 0]))] [] [] w.heap.size (by kernel_rfl) (by kernel_rfl) trivial HB ?_ ?_
  · exact ⟨fun s v h => does_new rfl rfl (x_box_z (h.same 0 rfl)) (okz _ _ _ _) rfl (.inr rfl),
      fun s v h => does_new rfl rfl x_alloc_z (okz _ _ _ _) rfl (.inr rfl), trivial⟩
  intro g1 ts v1 hts E1
  simp only [fillL, Nat.reduceAdd, List.setIfInBounds_toArray, List.set_cons_zero, List.set_cons_succ] at hts
  subst hts
  have T2 : Below w.heap.size w v1 := T0.trans E1.below
  have f4 := hm0.mono E1.mono
  obtain ⟨q5, p6, l7, o8, b9⟩ : ∃ q, g1 0 = .pointer (some ⟨q, 0, none⟩) ∧ w.heap.size ≤ q ∧ OkB v1 q 2 ∧ Bx v1 q 24 #[.bool na0, .slice A0 n0 c0] := E1.facts 0 (by decide)
  have h10 : w.heap.size ≤ q5 := Nat.le_trans HB l7
  obtain ⟨q11, p12, l13, o14, b15⟩ : ∃ q, g1 1 = .pointer (some ⟨q, 0, none⟩) ∧ w.heap.size ≤ q ∧ OkB v1 q 2 ∧ Bx v1 q 24 #[.bool false, .slice none 0 0] := E1.facts 1 (by decide)
  have h17 : w.heap.size ≤ q11 := Nat.le_trans HB l13
  have n18 : q5 ≠ q11 := E1.apart 0 1 (by decide) (by decide) (by decide) ⟨_, _, _, rfl⟩ ⟨_, _, _, rfl⟩ none _ none _ p6 p12
  refine then_normal ?_
  refine wp_seq ?_
  have HB : w.heap.size ≤ v1.heap.size := T2.size
  refine wp_plan_seq [.val (.is (.pointer (some ⟨q5, 0, none⟩))), .val (.is (.bool na0)), .val (.is (.pointer (some ⟨q5, 1, none⟩))), .val (.nz N0 M0), .val (.cz (zof na0 M0)), .put 2 7] [2] [q11] w.heap.size (by kernel_rfl) (by kernel_rfl) ⟨p12, b15.lt, (by simp), trivial⟩ HB ?_ ?_
  · exact ⟨fun s v h => does_val rfl rfl (x_fld (by decide) ((h.same 1 rfl).trans p6)) rfl,
      fun s v h => does_val rfl rfl (x_load_b (h.dep 0 rfl) ((h.far q5 b9.lt (nin1 n18)).trans b9)) rfl,
      fun s v h => does_val rfl rfl (x_fld (by decide) ((h.same 1 rfl).trans p6)) rfl,
      fun s v h => does_val rfl rfl (x_load_s (h.dep 2 rfl) ((h.far q5 b9.lt (nin1 n18)).trans b9)) (f4.mono h.mono),
      fun s v h => does_call rfl rfl (x_call2 Try.call81) (rmade_k (h.dep 1 rfl) (h.dep 3 rfl) (by omega)),
      fun s v h => does_put_z rfl rfl ((h.same 2 rfl).trans p12) (h.dep 4 rfl).shape (h.mono.ok _ _ b15.ok2) h17, trivial⟩
  intro g19 ts v19 hts E19
  simp only [fillL, Nat.reduceAdd, List.setIfInBounds_toArray, List.set_cons_zero, List.set_cons_succ] at hts
  subst hts
  have T20 : Below w.heap.size w v19 := T2.trans E19.below
  have l21 : q5 < v1.heap.size := b9.lt
  have l22 : q11 < v1.heap.size := b15.lt
  have f29 : Cz v19 (g19 4) (zof na0 M0) := E19.facts 4 (by decide)
  obtain ⟨t30, x32, A33, m34, c35, e36, b31⟩ := put_info (E19.facts 5 (by decide)) p12 f29.shape
  have f37 : Cz v19 (.agg #[.bool x32, .slice A33 m34 c35]) (zof na0 M0) := f29.at e36.symm
  refine then_normal ?_
  refine wp_ret ?_
  exact bodyPost_ret (ret_c rfl p12 b31) rfl ⟨_, rfl, (hz0 ▸ f37), T20⟩

set_option maxHeartbeats 4000000 in
set_option maxRecDepth 8000 in
theorem r2neg_k {w : World} {x : Value} {z : Int} {N0 : Nat} (h0 : Az N0 w x z) (hN0 : N0 ≤ 35184372088832)  : Calls Try.prog 48 #[x] w (Ret (.cz (-z)) w) := by
  have la0 := h0.len
  obtain ⟨na0, A0, n0, c0, M0, rfl, hm0, hz0⟩ := h0.parts
  have T0 : Below w.heap.size w w := Below.refl _ _
  go_enter Try.func48, Try.ntmps48
  refine wp_seq ?_
  have HB : w.heap.size ≤ w.heap.size := T0.size
  refine wp_plan_seq [.new 2 (some (24, #[.bool na0, .slice A0 n0 c0])), .new 2 (some (24, #[.bool false, .slice none 0 0]))] [] [] w.heap.size (by kernel_rfl) (by kernel_rfl) trivial HB ?_ ?_
  · exact ⟨fun s v h => does_new rfl rfl (x_box_z (h.same 0 rfl)) (okz _ _ _ _) rfl (.inr rfl),
      fun s v h => does_new rfl rfl x_alloc_z (okz _ _ _ _) rfl (.inr rfl), trivial⟩
  intro g74 ts v74 hts E74
  simp only [fillL, Nat.reduceAdd, List.setIfInBounds_toArray, List.set_cons_zero, List.set_cons_succ] at hts
  subst hts
  have T75 : Below w.heap.size w v74 := T0.trans E74.below
  have f77 := hm0.mono E74.mono
  obtain ⟨q78, p79, l80, o81, b82⟩ : ∃ q, g74 0 = .pointer (some ⟨q, 0, none⟩) ∧ w.heap.size ≤ q ∧ OkB v74 q 2 ∧ Bx v74 q 24 #[.bool na0, .slice A0 n0 c0] := E74.facts 0 (by decide)
  have h83 : w.heap.size ≤ q78 := Nat.le_trans HB l80
  obtain ⟨q84, p85, l86, o87, b88⟩ : ∃ q, g74 1 = .pointer (some ⟨q, 0, none⟩) ∧ w.heap.size ≤ q ∧ OkB v74 q 2 ∧ Bx v74 q 24 #[.bool false, .slice none 0 0] := E74.facts 1 (by decide)
  have h90 : w.heap.size ≤ q84 := Nat.le_trans HB l86
  have n91 : q78 ≠ q84 := E74.apart 0 1 (by decide) (by decide) (by decide) ⟨_, _, _, rfl⟩ ⟨_, _, _, rfl⟩ none _ none _ p79 p85
  refine then_normal ?_
  refine wp_seq ?_
  have HB : w.heap.size ≤ v74.heap.size := T75.size
  refine wp_plan_seq [.val (.is (.pointer (some ⟨q78, 0, none⟩))), .val (.is (.bool na0)), .val (.is (.bool (!na0))), .val (.is (.pointer (some ⟨q78, 1, none⟩))), .val (.nz N0 M0), .val (.cz (zof (!na0) M0)), .put 2 8] [2] [q84] w.heap.size (by kernel_rfl) (by kernel_rfl) ⟨p85, b88.lt, (by simp), trivial⟩ HB ?_ ?_
  · exact ⟨fun s v h => does_val rfl rfl (x_fld (by decide) ((h.same 1 rfl).trans p79)) rfl,
      fun s v h => does_val rfl rfl (x_load_b (h.dep 0 rfl) ((h.far q78 b82.lt (nin1 n91)).trans b82)) rfl,
      fun s v h => does_val rfl rfl (x_not (h.dep 1 rfl)) rfl,
      fun s v h => does_val rfl rfl (x_fld (by decide) ((h.same 1 rfl).trans p79)) rfl,
      fun s v h => does_val rfl rfl (x_load_s (h.dep 3 rfl) ((h.far q78 b82.lt (nin1 n91)).trans b82)) (f77.mono h.mono),
      fun s v h => does_call rfl rfl (x_call2 Try.call81) (rmade_k (h.dep 2 rfl) (h.dep 4 rfl) (by omega)),
      fun s v h => does_put_z rfl rfl ((h.same 2 rfl).trans p85) (h.dep 5 rfl).shape (h.mono.ok _ _ b88.ok2) h90, trivial⟩
  intro g92 ts v92 hts E92
  simp only [fillL, Nat.reduceAdd, List.setIfInBounds_toArray, List.set_cons_zero, List.set_cons_succ] at hts
  subst hts
  have T93 : Below w.heap.size w v92 := T75.trans E92.below
  have l94 : q78 < v74.heap.size := b82.lt
  have l95 : q84 < v74.heap.size := b88.lt
  have f103 : Cz v92 (g92 5) (zof (!na0) M0) := E92.facts 5 (by decide)
  obtain ⟨t104, x106, A107, m108, c109, e110, b105⟩ := put_info (E92.facts 6 (by decide)) p85 f103.shape
  have f111 : Cz v92 (.agg #[.bool x106, .slice A107 m108 c109]) (zof (!na0) M0) := f103.at e110.symm
  refine then_normal ?_
  refine wp_ret ?_
  exact bodyPost_ret (ret_c rfl p85 b105) rfl ⟨_, rfl, (by have := f111; rw [← hz0, ← zof_not]; exact this), T93⟩

set_option maxHeartbeats 4000000 in
set_option maxRecDepth 8000 in
theorem r2add_same {w : World} {na0 : Bool} {A0 : Option Addr} {n0 c0 M0 N0 : Nat} (hm0 : Nz N0 w (.slice A0 n0 c0) M0) {na1 : Bool} {A1 : Option Addr} {n1 c1 M1 N1 : Nat} (hm1 : Nz N1 w (.slice A1 n1 c1) M1) (hN0 : N0 < 35184372088831) (hN1 : N1 < 35184372088831) (hs : (na0 == na1) = true)  : Calls Try.prog 62 #[.agg #[.bool na0, .slice A0 n0 c0], .agg #[.bool na1, .slice A1 n1 c1]] w (Ret (.cz (zof na0 (M0 + M1))) w) := by
  have ha0 : Az N0 w (.agg #[.bool na0, .slice A0 n0 c0]) (zof na0 M0) := Az.of_nz hm0
  have la0 := ha0.len
  have ha1 : Az N1 w (.agg #[.bool na1, .slice A1 n1 c1]) (zof na1 M1) := Az.of_nz hm1
  have la1 := ha1.len
  have T0 : Below w.heap.size w w := Below.refl _ _
  go_enter Try.func62, Try.ntmps62
  refine wp_seq ?_
  have HB : w.heap.size ≤ w.heap.size := T0.size
  refine wp_plan_seq [.new 2 (some (24, #[.bool na0, .slice A0 n0 c0])), .new 2 (some (24, #[.bool na1, .slice A1 n1 c1])), .new 2 (some (24, #[.bool false, .slice none 0 0]))] [] [] w.heap.size (by kernel_rfl) (by kernel_rfl) trivial HB ?_ ?_
  · exact ⟨fun s v h => does_new rfl rfl (x_box_z (h.same 0 rfl)) (okz _ _ _ _) rfl (.inr rfl),
      fun s v h => does_new rfl rfl (x_box_z (h.same 1 rfl)) (okz _ _ _ _) rfl (.inr rfl),
      fun s v h => does_new rfl rfl x_alloc_z (okz _ _ _ _) rfl (.inr rfl), trivial⟩
  intro g152 ts v152 hts E152
  simp only [fillL, Nat.reduceAdd, List.setIfInBounds_toArray, List.set_cons_zero, List.set_cons_succ] at hts
  subst hts
  have T153 : Below w.heap.size w v152 := T0.trans E152.below
  have f155 := hm0.mono E152.mono
  have f157 := hm1.mono E152.mono
  obtain ⟨q158, p159, l160, o161, b162⟩ : ∃ q, g152 0 = .pointer (some ⟨q, 0, none⟩) ∧ w.heap.size ≤ q ∧ OkB v152 q 2 ∧ Bx v152 q 24 #[.bool na0, .slice A0 n0 c0] := E152.facts 0 (by decide)
  have h163 : w.heap.size ≤ q158 := Nat.le_trans HB l160
  obtain ⟨q164, p165, l166, o167, b168⟩ : ∃ q, g152 1 = .pointer (some ⟨q, 0, none⟩) ∧ w.heap.size ≤ q ∧ OkB v152 q 2 ∧ Bx v152 q 24 #[.bool na1, .slice A1 n1 c1] := E152.facts 1 (by decide)
  have h169 : w.heap.size ≤ q164 := Nat.le_trans HB l166
  obtain ⟨q171, p172, l173, o174, b175⟩ : ∃ q, g152 2 = .pointer (some ⟨q, 0, none⟩) ∧ w.heap.size ≤ q ∧ OkB v152 q 2 ∧ Bx v152 q 24 #[.bool false, .slice none 0 0] := E152.facts 2 (by decide)
  have h177 : w.heap.size ≤ q171 := Nat.le_trans HB l173
  have n178 : q158 ≠ q171 := E152.apart 0 2 (by decide) (by decide) (by decide) ⟨_, _, _, rfl⟩ ⟨_, _, _, rfl⟩ none _ none _ p159 p172
  have n179 : q164 ≠ q171 := E152.apart 1 2 (by decide) (by decide) (by decide) ⟨_, _, _, rfl⟩ ⟨_, _, _, rfl⟩ none _ none _ p165 p172
  refine then_normal ?_
  refine wp_seq ?_
  refine wp_seq ?_
  have HB : w.heap.size ≤ v152.heap.size := T153.size
  refine wp_plan_seq [.val (.is (.pointer (some ⟨q158, 0, none⟩))), .val (.is (.bool na0)), .val (.is (.pointer (some ⟨q164, 0, none⟩))), .val (.is (.bool na1)), .val (.is (.bool true))] [] [] w.heap.size (by kernel_rfl) (by kernel_rfl) trivial HB ?_ ?_
  · exact ⟨fun s v h => does_val rfl rfl (x_fld (by decide) ((h.same 2 rfl).trans p159)) rfl,
      fun s v h => does_val rfl rfl (x_load_b (h.dep 0 rfl) ((h.far q158 b162.lt (by simp)).trans b162)) rfl,
      fun s v h => does_val rfl rfl (x_fld (by decide) ((h.same 3 rfl).trans p165)) rfl,
      fun s v h => does_val rfl rfl (x_load_b (h.dep 2 rfl) ((h.far q164 b168.lt (by simp)).trans b168)) rfl,
      fun s v h => does_val rfl rfl (x_eql_bool (h.dep 1 rfl) (h.dep 3 rfl)) (congrArg Value.bool hs), trivial⟩
  intro g180 ts v180 hts E180
  simp only [fillL, Nat.reduceAdd, List.setIfInBounds_toArray, List.set_cons_zero, List.set_cons_succ] at hts
  subst hts
  have T181 : Below w.heap.size w v180 := T153.trans E180.below
  have l182 : q158 < v152.heap.size := b162.lt
  have l183 : q164 < v152.heap.size := b168.lt
  have l184 : q171 < v152.heap.size := b175.lt
  have b185 : Bx v180 q158 24 #[.bool na0, .slice A0 n0 c0] := (E180.far q158 b162.lt (by simp)).trans b162
  have b186 : Bx v180 q164 24 #[.bool na1, .slice A1 n1 c1] := (E180.far q164 b168.lt (by simp)).trans b168
  have b187 : Bx v180 q171 24 #[.bool false, .slice none 0 0] := (E180.far q171 b175.lt (by simp)).trans b175
  have f189 := f155.mono E180.mono
  have f191 := f157.mono E180.mono
  have e195 : g180 4 = (.bool true) := E180.facts 4 (by decide)
  refine then_normal ?_
  refine wp_cond_true e195 ?_
  refine wp_seq ?_
  have HB : w.heap.size ≤ v180.heap.size := T181.size
  refine wp_plan_any [.val (.is (.pointer (some ⟨q158, 0, none⟩))), .val (.is (.bool na0)), .val (.is (.pointer (some ⟨q158, 1, none⟩))), .val (.nz N0 M0), .val (.is (.pointer (some ⟨q164, 1, none⟩))), .val (.nz N1 M1), .val (.nz (max N0 N1 + 1) (M0 + M1)), .val (.cz (zof na0 (M0 + M1))), .put 4 21] [4] [q171] w.heap.size (by kernel_rfl) (by kernel_rfl) (by kernel_rfl) ⟨p172, b187.lt, (by simp), trivial⟩ HB ?_ ?_
  · exact ⟨fun s v h => does_val rfl rfl (x_fld (by decide) ((h.same 2 rfl).trans p159)) rfl,
      fun s v h => does_val rfl rfl (x_load_b (h.dep 0 rfl) ((h.far q158 b185.lt (nin1 n178)).trans b185)) rfl,
      fun s v h => does_val rfl rfl (x_fld (by decide) ((h.same 2 rfl).trans p159)) rfl,
      fun s v h => does_val rfl rfl (x_load_s (h.dep 2 rfl) ((h.far q158 b185.lt (nin1 n178)).trans b185)) (f189.mono ((Mono.drew _).trans h.mono)),
      fun s v h => does_val rfl rfl (x_fld (by decide) ((h.same 3 rfl).trans p165)) rfl,
      fun s v h => does_val rfl rfl (x_load_s (h.dep 4 rfl) ((h.far q164 b186.lt (nin1 n179)).trans b186)) (f191.mono ((Mono.drew _).trans h.mono)),
      fun s v h => does_call rfl rfl (x_call2 Try.call94) (radd_k (h.dep 3 rfl) (h.dep 5 rfl) (by omega) (by omega) (by omega) (by omega)),
      fun s v h => does_call rfl rfl (x_call2 Try.call81) (rmade_k (h.dep 1 rfl) (h.dep 6 rfl) (by omega)),
      fun s v h => does_put_z rfl rfl ((h.same 4 rfl).trans p172) (h.dep 7 rfl).shape (((Mono.drew _).trans h.mono).ok _ _ b187.ok2) h177, trivial⟩
  intro g196 ts v196 hts E196
  simp only [fillL, Nat.reduceAdd, List.setIfInBounds_toArray, List.set_cons_zero, List.set_cons_succ] at hts
  subst hts
  have T197 : Below w.heap.size w v196 := (below_toDrew T181).trans E196.below
  have l198 : q158 < v180.heap.size := b185.lt
  have l199 : q164 < v180.heap.size := b186.lt
  have l200 : q171 < v180.heap.size := b187.lt
  have f212 : Cz v196 (g196 7) (zof na0 (M0 + M1)) := E196.facts 7 (by decide)
  obtain ⟨t213, x215, A216, m217, c218, e219, b214⟩ := put_info (E196.facts 8 (by decide)) p172 f212.shape
  have f220 : Cz v196 (.agg #[.bool x215, .slice A216 m217 c218]) (zof na0 (M0 + M1)) := f212.at e219.symm
  refine then_normal ?_
  refine wp_ret ?_
  exact bodyPost_ret (ret_c rfl p172 b214) rfl ⟨_, rfl, f220, T197⟩

set_option maxHeartbeats 4000000 in
set_option maxRecDepth 8000 in
theorem r2add_ge {w : World} {na0 : Bool} {A0 : Option Addr} {n0 c0 M0 N0 : Nat} (hm0 : Nz N0 w (.slice A0 n0 c0) M0) {na1 : Bool} {A1 : Option Addr} {n1 c1 M1 N1 : Nat} (hm1 : Nz N1 w (.slice A1 n1 c1) M1) (hN0 : N0 ≤ 35184372088832) (hs : (na0 == na1) = false) (hle : M1 ≤ M0) (hd : decide (0 ≤ cmpN M0 M1) = true)  : Calls Try.prog 62 #[.agg #[.bool na0, .slice A0 n0 c0], .agg #[.bool na1, .slice A1 n1 c1]] w (Ret (.cz (zof na0 (M0 - M1))) w) := by
  have ha0 : Az N0 w (.agg #[.bool na0, .slice A0 n0 c0]) (zof na0 M0) := Az.of_nz hm0
  have la0 := ha0.len
  have ha1 : Az N1 w (.agg #[.bool na1, .slice A1 n1 c1]) (zof na1 M1) := Az.of_nz hm1
  have la1 := ha1.len
  have T0 : Below w.heap.size w w := Below.refl _ _
  go_enter Try.func62, Try.ntmps62
  refine wp_seq ?_
  have HB : w.heap.size ≤ w.heap.size := T0.size
  refine wp_plan_seq [.new 2 (some (24, #[.bool na0, .slice A0 n0 c0])), .new 2 (some (24, #[.bool na1, .slice A1 n1 c1])), .new 2 (some (24, #[.bool false, .slice none 0 0]))] [] [] w.heap.size (by kernel_rfl) (by kernel_rfl) trivial HB ?_ ?_
  · exact ⟨fun s v h => does_new rfl rfl (x_box_z (h.same 0 rfl)) (okz _ _ _ _) rfl (.inr rfl),
      fun s v h => does_new rfl rfl (x_box_z (h.same 1 rfl)) (okz _ _ _ _) rfl (.inr rfl),
      fun s v h => does_new rfl rfl x_alloc_z (okz _ _ _ _) rfl (.inr rfl), trivial⟩
  intro g221 ts v221 hts E221
  simp only [fillL, Nat.reduceAdd, List.setIfInBounds_toArray, List.set_cons_zero, List.set_cons_succ] at hts
  subst hts
  have T222 : Below w.heap.size w v221 := T0.trans E221.below
  have f224 := hm0.mono E221.mono
  have f226 := hm1.mono E221.mono
  obtain ⟨q227, p228, l229, o230, b231⟩ : ∃ q, g221 0 = .pointer (some ⟨q, 0, none⟩) ∧ w.heap.size ≤ q ∧ OkB v221 q 2 ∧ Bx v221 q 24 #[.bool na0, .slice A0 n0 c0] := E221.facts 0 (by decide)
  have h232 : w.heap.size ≤ q227 := Nat.le_trans HB l229
  obtain ⟨q233, p234, l235, o236, b237⟩ : ∃ q, g221 1 = .pointer (some ⟨q, 0, none⟩) ∧ w.heap.size ≤ q ∧ OkB v221 q 2 ∧ Bx v221 q 24 #[.bool na1, .slice A1 n1 c1] := E221.facts 1 (by decide)
  have h238 : w.heap.size ≤ q233 := Nat.le_trans HB l235
  obtain ⟨q240, p241, l242, o243, b244⟩ : ∃ q, g221 2 = .pointer (some ⟨q, 0, none⟩) ∧ w.heap.size ≤ q ∧ OkB v221 q 2 ∧ Bx v221 q 24 #[.bool false, .slice none 0 0] := E221.facts 2 (by decide)
  have h246 : w.heap.size ≤ q240 := Nat.le_trans HB l242
  have n247 : q227 ≠ q240 := E221.apart 0 2 (by decide) (by decide) (by decide) ⟨_, _, _, rfl⟩ ⟨_, _, _, rfl⟩ none _ none _ p228 p241
  refine then_normal ?_
  refine wp_seq ?_
  refine wp_seq ?_
  have HB : w.heap.size ≤ v221.heap.size := T222.size
  refine wp_plan_seq [.val (.is (.pointer (some ⟨q227, 0, none⟩))), .val (.is (.bool na0)), .val (.is (.pointer (some ⟨q233, 0, none⟩))), .val (.is (.bool na1)), .val (.is (.bool false))] [] [] w.heap.size (by kernel_rfl) (by kernel_rfl) trivial HB ?_ ?_
  · exact ⟨fun s v h => does_val rfl rfl (x_fld (by decide) ((h.same 2 rfl).trans p228)) rfl,
      fun s v h => does_val rfl rfl (x_load_b (h.dep 0 rfl) ((h.far q227 b231.lt (by simp)).trans b231)) rfl,
      fun s v h => does_val rfl rfl (x_fld (by decide) ((h.same 3 rfl).trans p234)) rfl,
      fun s v h => does_val rfl rfl (x_load_b (h.dep 2 rfl) ((h.far q233 b237.lt (by simp)).trans b237)) rfl,
      fun s v h => does_val rfl rfl (x_eql_bool (h.dep 1 rfl) (h.dep 3 rfl)) (congrArg Value.bool hs), trivial⟩
  intro g249 ts v249 hts E249
  simp only [fillL, Nat.reduceAdd, List.setIfInBounds_toArray, List.set_cons_zero, List.set_cons_succ] at hts
  subst hts
  have T250 : Below w.heap.size w v249 := T222.trans E249.below
  have l251 : q227 < v221.heap.size := b231.lt
  have l252 : q233 < v221.heap.size := b237.lt
  have l253 : q240 < v221.heap.size := b244.lt
  have b254 : Bx v249 q227 24 #[.bool na0, .slice A0 n0 c0] := (E249.far q227 b231.lt (by simp)).trans b231
  have b255 : Bx v249 q233 24 #[.bool na1, .slice A1 n1 c1] := (E249.far q233 b237.lt (by simp)).trans b237
  have b256 : Bx v249 q240 24 #[.bool false, .slice none 0 0] := (E249.far q240 b244.lt (by simp)).trans b244
  have f258 := f224.mono E249.mono
  have f260 := f226.mono E249.mono
  have e264 : g249 4 = (.bool false) := E249.facts 4 (by decide)
  refine then_normal ?_
  refine wp_cond_false e264 ?_
  refine wp_skip ?_
  refine then_normal ?_
  refine wp_seq ?_
  refine wp_seq ?_
  have HB : w.heap.size ≤ v249.heap.size := T250.size
  refine wp_plan_seq [.val (.is (.pointer (some ⟨q227, 1, none⟩))), .val (.nz N0 M0), .val (.is (.pointer (some ⟨q233, 1, none⟩))), .val (.nz N1 M1), .val (.is (.int .i64 (cmpN M0 M1))), .val (.is (.bool true))] [] [] w.heap.size (by kernel_rfl) (by kernel_rfl) trivial HB ?_ ?_
  · exact ⟨fun s v h => does_val rfl rfl (x_fld (by decide) ((h.same 2 rfl).trans p228)) rfl,
      fun s v h => does_val rfl rfl (x_load_s (h.dep 0 rfl) ((h.far q227 b254.lt (by simp)).trans b254)) (f258.mono h.mono),
      fun s v h => does_val rfl rfl (x_fld (by decide) ((h.same 3 rfl).trans p234)) rfl,
      fun s v h => does_val rfl rfl (x_load_s (h.dep 2 rfl) ((h.far q233 b255.lt (by simp)).trans b255)) (f260.mono h.mono),
      fun s v h => does_call rfl rfl (x_call2 Try.call86) (rcmp_k (h.dep 1 rfl) (h.dep 3 rfl)),
      fun s v h => does_val rfl rfl (x_geq (h.dep 4 rfl) rfl) (congrArg Value.bool hd), trivial⟩
  intro g265 ts v265 hts E265
  simp only [fillL, Nat.reduceAdd, List.setIfInBounds_toArray, List.set_cons_zero, List.set_cons_succ] at hts
  subst hts
  have T266 : Below w.heap.size w v265 := T250.trans E265.below
  have l267 : q227 < v249.heap.size := b254.lt
  have l268 : q233 < v249.heap.size := b255.lt
  have l269 : q240 < v249.heap.size := b256.lt
  have b270 : Bx v265 q227 24 #[.bool na0, .slice A0 n0 c0] := (E265.far q227 b254.lt (by simp)).trans b254
  have b271 : Bx v265 q233 24 #[.bool na1, .slice A1 n1 c1] := (E265.far q233 b255.lt (by simp)).trans b255
  have b272 : Bx v265 q240 24 #[.bool false, .slice none 0 0] := (E265.far q240 b256.lt (by simp)).trans b256
  have f274 := f258.mono E265.mono
  have f276 := f260.mono E265.mono
  have e281 : g265 5 = (.bool true) := E265.facts 5 (by decide)
  refine then_normal ?_
  refine wp_cond_true e281 ?_
  refine wp_seq ?_
  have HB : w.heap.size ≤ v265.heap.size := T266.size
  refine wp_plan_seq [.val (.is (.pointer (some ⟨q227, 1, none⟩))), .val (.nz N0 M0), .val (.is (.pointer (some ⟨q233, 1, none⟩))), .val (.nz N1 M1), .val (.tup2 (.nz N0 (M0 - M1)) (.is (.int .i64 0))), .val (.tup2 (.nz N0 (M0 - M1)) (.is (.int .i64 0))), .val (.nz N0 (M0 - M1)), .val (.is (.int .i64 0)), .val (.nz N0 (M0 - M1)), .val (.is (.int .i64 0))] [] [] w.heap.size (by kernel_rfl) (by kernel_rfl) trivial HB ?_ ?_
  · exact ⟨fun s v h => does_val rfl rfl (x_fld (by decide) ((h.same 2 rfl).trans p228)) rfl,
      fun s v h => does_val rfl rfl (x_load_s (h.dep 0 rfl) ((h.far q227 b270.lt (by simp)).trans b270)) (f274.mono h.mono),
      fun s v h => does_val rfl rfl (x_fld (by decide) ((h.same 3 rfl).trans p234)) rfl,
      fun s v h => does_val rfl rfl (x_load_s (h.dep 2 rfl) ((h.far q233 b271.lt (by simp)).trans b271)) (f276.mono h.mono),
      fun s v h => does_call rfl rfl (x_call2 Try.call95) (rsub_k (h.dep 1 rfl) (h.dep 3 rfl) (by omega) (by omega)),
      fun s v h => does_val rfl rfl (x_move) (h.dep 4 rfl),
      fun s v h => by obtain ⟨r0, r1, e, f0, f1⟩ := tup2_at (h.dep 5 rfl); exact does_val rfl rfl (x_ext e rfl) f0,
      fun s v h => by obtain ⟨r0, r1, e, f0, f1⟩ := tup2_at (h.dep 5 rfl); exact does_val rfl rfl (x_ext e rfl) f1,
      fun s v h => does_val rfl rfl (x_assign) (h.dep 6 rfl),
      fun s v h => does_val rfl rfl (x_assign) (h.dep 7 rfl), trivial⟩
  intro g282 ts v282 hts E282
  simp only [fillL, Nat.reduceAdd, List.setIfInBounds_toArray, List.set_cons_zero, List.set_cons_succ] at hts
  subst hts
  have T283 : Below w.heap.size w v282 := T266.trans E282.below
  have l284 : q227 < v265.heap.size := b270.lt
  have l285 : q233 < v265.heap.size := b271.lt
  have l286 : q240 < v265.heap.size := b272.lt
  have b287 : Bx v282 q227 24 #[.bool na0, .slice A0 n0 c0] := (E282.far q227 b270.lt (by simp)).trans b270
  have b288 : Bx v282 q233 24 #[.bool na1, .slice A1 n1 c1] := (E282.far q233 b271.lt (by simp)).trans b271
  have b289 : Bx v282 q240 24 #[.bool false, .slice none 0 0] := (E282.far q240 b272.lt (by simp)).trans b272
  have f301 : Nz N0 v282 (g282 8) (M0 - M1) := E282.facts 8 (by decide)
  refine then_normal ?_
  refine wp_seq ?_
  have HB : w.heap.size ≤ v282.heap.size := T283.size
  refine wp_plan_seq [.val (.is (.pointer (some ⟨q227, 0, none⟩))), .val (.is (.bool na0)), .val (.nz N0 (M0 - M1)), .val (.cz (zof na0 (M0 - M1))), .put 4 39] [4] [q240] w.heap.size (by kernel_rfl) (by kernel_rfl) ⟨p241, b289.lt, (by simp), trivial⟩ HB ?_ ?_
  · exact ⟨fun s v h => does_val rfl rfl (x_fld (by decide) ((h.same 2 rfl).trans p228)) rfl,
      fun s v h => does_val rfl rfl (x_load_b (h.dep 0 rfl) ((h.far q227 b287.lt (nin1 n247)).trans b287)) rfl,
      fun s v h => does_val rfl rfl (x_move) ((f301.mono h.mono).at (h.same 5 rfl)),
      fun s v h => does_call rfl rfl (x_call2 Try.call81) (rmade_k (h.dep 1 rfl) (h.dep 2 rfl) (by omega)),
      fun s v h => does_put_z rfl rfl ((h.same 4 rfl).trans p241) (h.dep 3 rfl).shape (h.mono.ok _ _ b289.ok2) h246, trivial⟩
  intro g303 ts v303 hts E303
  simp only [fillL, Nat.reduceAdd, List.setIfInBounds_toArray, List.set_cons_zero, List.set_cons_succ] at hts
  subst hts
  have T304 : Below w.heap.size w v303 := T283.trans E303.below
  have l305 : q227 < v282.heap.size := b287.lt
  have l306 : q233 < v282.heap.size := b288.lt
  have l307 : q240 < v282.heap.size := b289.lt
  have f323 : Cz v303 (g303 3) (zof na0 (M0 - M1)) := E303.facts 3 (by decide)
  obtain ⟨t324, x326, A327, m328, c329, e330, b325⟩ := put_info (E303.facts 4 (by decide)) p241 f323.shape
  have f331 : Cz v303 (.agg #[.bool x326, .slice A327 m328 c329]) (zof na0 (M0 - M1)) := f323.at e330.symm
  refine then_normal ?_
  refine wp_ret ?_
  exact bodyPost_ret (ret_c rfl p241 b325) rfl ⟨_, rfl, f331, T304⟩

set_option maxHeartbeats 4000000 in
set_option maxRecDepth 8000 in
theorem r2add_lt {w : World} {na0 : Bool} {A0 : Option Addr} {n0 c0 M0 N0 : Nat} (hm0 : Nz N0 w (.slice A0 n0 c0) M0) {na1 : Bool} {A1 : Option Addr} {n1 c1 M1 N1 : Nat} (hm1 : Nz N1 w (.slice A1 n1 c1) M1) (hN1 : N1 ≤ 35184372088832) (hs : (na0 == na1) = false) (hle : M0 ≤ M1) (hd : decide (0 ≤ cmpN M0 M1) = false)  : Calls Try.prog 62 #[.agg #[.bool na0, .slice A0 n0 c0], .agg #[.bool na1, .slice A1 n1 c1]] w (Ret (.cz (zof na1 (M1 - M0))) w) := by
  have ha0 : Az N0 w (.agg #[.bool na0, .slice A0 n0 c0]) (zof na0 M0) := Az.of_nz hm0
  have la0 := ha0.len
  have ha1 : Az N1 w (.agg #[.bool na1, .slice A1 n1 c1]) (zof na1 M1) := Az.of_nz hm1
  have la1 := ha1.len
  have T0 : Below w.heap.size w w := Below.refl _ _
  go_enter Try.func62, Try.ntmps62
  refine wp_seq ?_
  have HB : w.heap.size ≤ w.heap.size := T0.size
  refine wp_plan_seq [.new 2 (some (24, #[.bool na0, .slice A0 n0 c0])), .new 2 (some (24, #[.bool na1, .slice A1 n1 c1])), .new 2 (some (24, #[.bool false, .slice none 0 0]))] [] [] w.heap.size (by kernel_rfl) (by kernel_rfl) trivial HB ?_ ?_
  · exact ⟨fun s v h => does_new rfl rfl (x_box_z (h.same 0 rfl)) (okz _ _ _ _) rfl (.inr rfl),
      fun s v h => does_new rfl rfl (x_box_z (h.same 1 rfl)) (okz _ _ _ _) rfl (.inr rfl),
      fun s v h => does_new rfl rfl x_alloc_z (okz _ _ _ _) rfl (.inr rfl), trivial⟩
  intro g332 ts v332 hts E332
  simp only [fillL, Nat.reduceAdd, List.setIfInBounds_toArray, List.set_cons_zero, List.set_cons_succ] at hts
  subst hts
  have T333 : Below w.heap.size w v332 := T0.trans E332.below
  have f335 := hm0.mono E332.mono
  have f337 := hm1.mono E332.mono
  obtain ⟨q338, p339, l340, o341, b342⟩ : ∃ q, g332 0 = .pointer (some ⟨q, 0, none⟩) ∧ w.heap.size ≤ q ∧ OkB v332 q 2 ∧ Bx v332 q 24 #[.bool na0, .slice A0 n0 c0] := E332.facts 0 (by decide)
  have h343 : w.heap.size ≤ q338 := Nat.le_trans HB l340
  obtain ⟨q344, p345, l346, o347, b348⟩ : ∃ q, g332 1 = .pointer (some ⟨q, 0, none⟩) ∧ w.heap.size ≤ q ∧ OkB v332 q 2 ∧ Bx v332 q 24 #[.bool na1, .slice A1 n1 c1] := E332.facts 1 (by decide)
  have h349 : w.heap.size ≤ q344 := Nat.le_trans HB l346
  obtain ⟨q351, p352, l353, o354, b355⟩ : ∃ q, g332 2 = .pointer (some ⟨q, 0, none⟩) ∧ w.heap.size ≤ q ∧ OkB v332 q 2 ∧ Bx v332 q 24 #[.bool false, .slice none 0 0] := E332.facts 2 (by decide)
  have h357 : w.heap.size ≤ q351 := Nat.le_trans HB l353
  have n359 : q344 ≠ q351 := E332.apart 1 2 (by decide) (by decide) (by decide) ⟨_, _, _, rfl⟩ ⟨_, _, _, rfl⟩ none _ none _ p345 p352
  refine then_normal ?_
  refine wp_seq ?_
  refine wp_seq ?_
  have HB : w.heap.size ≤ v332.heap.size := T333.size
  refine wp_plan_seq [.val (.is (.pointer (some ⟨q338, 0, none⟩))), .val (.is (.bool na0)), .val (.is (.pointer (some ⟨q344, 0, none⟩))), .val (.is (.bool na1)), .val (.is (.bool false))] [] [] w.heap.size (by kernel_rfl) (by kernel_rfl) trivial HB ?_ ?_
  · exact ⟨fun s v h => does_val rfl rfl (x_fld (by decide) ((h.same 2 rfl).trans p339)) rfl,
      fun s v h => does_val rfl rfl (x_load_b (h.dep 0 rfl) ((h.far q338 b342.lt (by simp)).trans b342)) rfl,
      fun s v h => does_val rfl rfl (x_fld (by decide) ((h.same 3 rfl).trans p345)) rfl,
      fun s v h => does_val rfl rfl (x_load_b (h.dep 2 rfl) ((h.far q344 b348.lt (by simp)).trans b348)) rfl,
      fun s v h => does_val rfl rfl (x_eql_bool (h.dep 1 rfl) (h.dep 3 rfl)) (congrArg Value.bool hs), trivial⟩
  intro g360 ts v360 hts E360
  simp only [fillL, Nat.reduceAdd, List.setIfInBounds_toArray, List.set_cons_zero, List.set_cons_succ] at hts
  subst hts
  have T361 : Below w.heap.size w v360 := T333.trans E360.below
  have l362 : q338 < v332.heap.size := b342.lt
  have l363 : q344 < v332.heap.size := b348.lt
  have l364 : q351 < v332.heap.size := b355.lt
  have b365 : Bx v360 q338 24 #[.bool na0, .slice A0 n0 c0] := (E360.far q338 b342.lt (by simp)).trans b342
  have b366 : Bx v360 q344 24 #[.bool na1, .slice A1 n1 c1] := (E360.far q344 b348.lt (by simp)).trans b348
  have b367 : Bx v360 q351 24 #[.bool false, .slice none 0 0] := (E360.far q351 b355.lt (by simp)).trans b355
  have f369 := f335.mono E360.mono
  have f371 := f337.mono E360.mono
  have e375 : g360 4 = (.bool false) := E360.facts 4 (by decide)
  refine then_normal ?_
  refine wp_cond_false e375 ?_
  refine wp_skip ?_
  refine then_normal ?_
  refine wp_seq ?_
  refine wp_seq ?_
  have HB : w.heap.size ≤ v360.heap.size := T361.size
  refine wp_plan_seq [.val (.is (.pointer (some ⟨q338, 1, none⟩))), .val (.nz N0 M0), .val (.is (.pointer (some ⟨q344, 1, none⟩))), .val (.nz N1 M1), .val (.is (.int .i64 (cmpN M0 M1))), .val (.is (.bool false))] [] [] w.heap.size (by kernel_rfl) (by kernel_rfl) trivial HB ?_ ?_
  · exact ⟨fun s v h => does_val rfl rfl (x_fld (by decide) ((h.same 2 rfl).trans p339)) rfl,
      fun s v h => does_val rfl rfl (x_load_s (h.dep 0 rfl) ((h.far q338 b365.lt (by simp)).trans b365)) (f369.mono h.mono),
      fun s v h => does_val rfl rfl (x_fld (by decide) ((h.same 3 rfl).trans p345)) rfl,
      fun s v h => does_val rfl rfl (x_load_s (h.dep 2 rfl) ((h.far q344 b366.lt (by simp)).trans b366)) (f371.mono h.mono),
      fun s v h => does_call rfl rfl (x_call2 Try.call86) (rcmp_k (h.dep 1 rfl) (h.dep 3 rfl)),
      fun s v h => does_val rfl rfl (x_geq (h.dep 4 rfl) rfl) (congrArg Value.bool hd), trivial⟩
  intro g376 ts v376 hts E376
  simp only [fillL, Nat.reduceAdd, List.setIfInBounds_toArray, List.set_cons_zero, List.set_cons_succ] at hts
  subst hts
  have T377 : Below w.heap.size w v376 := T361.trans E376.below
  have l378 : q338 < v360.heap.size := b365.lt
  have l379 : q344 < v360.heap.size := b366.lt
  have l380 : q351 < v360.heap.size := b367.lt
  have b381 : Bx v376 q338 24 #[.bool na0, .slice A0 n0 c0] := (E376.far q338 b365.lt (by simp)).trans b365
  have b382 : Bx v376 q344 24 #[.bool na1, .slice A1 n1 c1] := (E376.far q344 b366.lt (by simp)).trans b366
  have b383 : Bx v376 q351 24 #[.bool false, .slice none 0 0] := (E376.far q351 b367.lt (by simp)).trans b367
  have f385 := f369.mono E376.mono
  have f387 := f371.mono E376.mono
  have e392 : g376 5 = (.bool false) := E376.facts 5 (by decide)
  refine then_normal ?_
  refine wp_cond_false e392 ?_
  refine wp_skip ?_
  refine then_normal ?_
  refine wp_seq ?_
  have HB : w.heap.size ≤ v376.heap.size := T377.size
  refine wp_plan_seq [.val (.is (.pointer (some ⟨q344, 1, none⟩))), .val (.nz N1 M1), .val (.is (.pointer (some ⟨q338, 1, none⟩))), .val (.nz N0 M0), .val (.tup2 (.nz N1 (M1 - M0)) (.is (.int .i64 0))), .val (.tup2 (.nz N1 (M1 - M0)) (.is (.int .i64 0))), .val (.nz N1 (M1 - M0)), .val (.is (.int .i64 0)), .val (.nz N1 (M1 - M0)), .val (.is (.int .i64 0))] [] [] w.heap.size (by kernel_rfl) (by kernel_rfl) trivial HB ?_ ?_
  · exact ⟨fun s v h => does_val rfl rfl (x_fld (by decide) ((h.same 3 rfl).trans p345)) rfl,
      fun s v h => does_val rfl rfl (x_load_s (h.dep 0 rfl) ((h.far q344 b382.lt (by simp)).trans b382)) (f387.mono h.mono),
      fun s v h => does_val rfl rfl (x_fld (by decide) ((h.same 2 rfl).trans p339)) rfl,
      fun s v h => does_val rfl rfl (x_load_s (h.dep 2 rfl) ((h.far q338 b381.lt (by simp)).trans b381)) (f385.mono h.mono),
      fun s v h => does_call rfl rfl (x_call2 Try.call95) (rsub_k (h.dep 1 rfl) (h.dep 3 rfl) (by omega) (by omega)),
      fun s v h => does_val rfl rfl (x_move) (h.dep 4 rfl),
      fun s v h => by obtain ⟨r0, r1, e, f0, f1⟩ := tup2_at (h.dep 5 rfl); exact does_val rfl rfl (x_ext e rfl) f0,
      fun s v h => by obtain ⟨r0, r1, e, f0, f1⟩ := tup2_at (h.dep 5 rfl); exact does_val rfl rfl (x_ext e rfl) f1,
      fun s v h => does_val rfl rfl (x_assign) (h.dep 6 rfl),
      fun s v h => does_val rfl rfl (x_assign) (h.dep 7 rfl), trivial⟩
  intro g393 ts v393 hts E393
  simp only [fillL, Nat.reduceAdd, List.setIfInBounds_toArray, List.set_cons_zero, List.set_cons_succ] at hts
  subst hts
  have T394 : Below w.heap.size w v393 := T377.trans E393.below
  have l395 : q338 < v376.heap.size := b381.lt
  have l396 : q344 < v376.heap.size := b382.lt
  have l397 : q351 < v376.heap.size := b383.lt
  have b398 : Bx v393 q338 24 #[.bool na0, .slice A0 n0 c0] := (E393.far q338 b381.lt (by simp)).trans b381
  have b399 : Bx v393 q344 24 #[.bool na1, .slice A1 n1 c1] := (E393.far q344 b382.lt (by simp)).trans b382
  have b400 : Bx v393 q351 24 #[.bool false, .slice none 0 0] := (E393.far q351 b383.lt (by simp)).trans b383
  have f412 : Nz N1 v393 (g393 8) (M1 - M0) := E393.facts 8 (by decide)
  refine then_normal ?_
  refine wp_seq ?_
  have HB : w.heap.size ≤ v393.heap.size := T394.size
  refine wp_plan_seq [.val (.is (.pointer (some ⟨q344, 0, none⟩))), .val (.is (.bool na1)), .val (.nz N1 (M1 - M0)), .val (.cz (zof na1 (M1 - M0))), .put 4 51] [4] [q351] w.heap.size (by kernel_rfl) (by kernel_rfl) ⟨p352, b400.lt, (by simp), trivial⟩ HB ?_ ?_
  · exact ⟨fun s v h => does_val rfl rfl (x_fld (by decide) ((h.same 3 rfl).trans p345)) rfl,
      fun s v h => does_val rfl rfl (x_load_b (h.dep 0 rfl) ((h.far q344 b399.lt (nin1 n359)).trans b399)) rfl,
      fun s v h => does_val rfl rfl (x_move) ((f412.mono h.mono).at (h.same 7 rfl)),
      fun s v h => does_call rfl rfl (x_call2 Try.call81) (rmade_k (h.dep 1 rfl) (h.dep 2 rfl) (by omega)),
      fun s v h => does_put_z rfl rfl ((h.same 4 rfl).trans p352) (h.dep 3 rfl).shape (h.mono.ok _ _ b400.ok2) h357, trivial⟩
  intro g414 ts v414 hts E414
  simp only [fillL, Nat.reduceAdd, List.setIfInBounds_toArray, List.set_cons_zero, List.set_cons_succ] at hts
  subst hts
  have T415 : Below w.heap.size w v414 := T394.trans E414.below
  have l416 : q338 < v393.heap.size := b398.lt
  have l417 : q344 < v393.heap.size := b399.lt
  have l418 : q351 < v393.heap.size := b400.lt
  have f434 : Cz v414 (g414 3) (zof na1 (M1 - M0)) := E414.facts 3 (by decide)
  obtain ⟨t435, x437, A438, m439, c440, e441, b436⟩ := put_info (E414.facts 4 (by decide)) p352 f434.shape
  have f442 : Cz v414 (.agg #[.bool x437, .slice A438 m439 c440]) (zof na1 (M1 - M0)) := f434.at e441.symm
  refine then_normal ?_
  refine wp_ret ?_
  exact bodyPost_ret (ret_c rfl p352 b436) rfl ⟨_, rfl, f442, T415⟩

theorem r2add_k {w : World} {x y : Value} {z u : Int} {N M : Nat} (h : Az N w x z) (h' : Az M w y u) (hN : N ≤ 35184372088830) (hM : M ≤ 35184372088830) : Calls Try.prog 62 #[x, y] w (Ret (.cz (z + u)) w) := by
  obtain ⟨na, A, n, c, a, rfl, hm, rfl⟩ := h.parts
  obtain ⟨nb, A', n', c', b, rfl, hm', rfl⟩ := h'.parts
  by_cases hne : na = nb
  · subst hne
    rw [zof_same]
    exact r2add_same hm hm' (by omega) (by omega) (by simp)
  · have hs : (na == nb) = false := by simpa using hne
    rcases Nat.lt_or_ge a b with h | h
    · rw [Int.add_comm, zof_other (fun e => hne e.symm) (by omega)]
      exact r2add_lt hm hm' (by omega) hs (by omega) (by rw [cmpN_lt h]; rfl)
    · rw [zof_other hne h]
      refine r2add_ge hm hm' (by omega) hs h ?_
      unfold cmpN
      split <;> (try split) <;> simp <;> omega

set_option maxHeartbeats 4000000 in
set_option maxRecDepth 8000 in
theorem r2sub_k {w : World} {x : Value} {z : Int} {N0 : Nat} (h0 : Az N0 w x z) {y : Value} {u : Int} {N1 : Nat} (h1 : Az N1 w y u) (hN0 : N0 ≤ 35184372088830) (hN1 : N1 ≤ 35184372088830)  : Calls Try.prog 96 #[x, y] w (Ret (.cz (z - u)) w) := by
  have la0 := h0.len
  obtain ⟨na0, A0, n0, c0, M0, rfl, hm0, hz0⟩ := h0.parts
  have la1 := h1.len
  obtain ⟨na1, A1, n1, c1, M1, rfl, hm1, hz1⟩ := h1.parts
  have T0 : Below w.heap.size w w := Below.refl _ _
  go_enter Try.func96, Try.ntmps96
  refine wp_seq ?_
  have HB : w.heap.size ≤ w.heap.size := T0.size
  refine wp_plan_seq [.new 2 (some (24, #[.bool na0, .slice A0 n0 c0])), .new 2 (some (24, #[.bool na1, .slice A1 n1 c1])), .new 2 (some (24, #[.bool false, .slice none 0 0]))] [] [] w.heap.size (by kernel_rfl) (by kernel_rfl) trivial HB ?_ ?_
  · exact ⟨fun s v h => does_new rfl rfl (x_box_z (h.same 0 rfl)) (okz _ _ _ _) rfl (.inr rfl),
      fun s v h => does_new rfl rfl (x_box_z (h.same 1 rfl)) (okz _ _ _ _) rfl (.inr rfl),
      fun s v h => does_new rfl rfl x_alloc_z (okz _ _ _ _) rfl (.inr rfl), trivial⟩
  intro g443 ts v443 hts E443
  simp only [fillL, Nat.reduceAdd, List.setIfInBounds_toArray, List.set_cons_zero, List.set_cons_succ] at hts
  subst hts
  have T444 : Below w.heap.size w v443 := T0.trans E443.below
  have f445 := h0.mono E443.mono
  have f447 := h1.mono E443.mono
  obtain ⟨q449, p450, l451, o452, b453⟩ : ∃ q, g443 0 = .pointer (some ⟨q, 0, none⟩) ∧ w.heap.size ≤ q ∧ OkB v443 q 2 ∧ Bx v443 q 24 #[.bool na0, .slice A0 n0 c0] := E443.facts 0 (by decide)
  have h454 : w.heap.size ≤ q449 := Nat.le_trans HB l451
  obtain ⟨q455, p456, l457, o458, b459⟩ : ∃ q, g443 1 = .pointer (some ⟨q, 0, none⟩) ∧ w.heap.size ≤ q ∧ OkB v443 q 2 ∧ Bx v443 q 24 #[.bool na1, .slice A1 n1 c1] := E443.facts 1 (by decide)
  have h460 : w.heap.size ≤ q455 := Nat.le_trans HB l457
  obtain ⟨q462, p463, l464, o465, b466⟩ : ∃ q, g443 2 = .pointer (some ⟨q, 0, none⟩) ∧ w.heap.size ≤ q ∧ OkB v443 q 2 ∧ Bx v443 q 24 #[.bool false, .slice none 0 0] := E443.facts 2 (by decide)
  have h468 : w.heap.size ≤ q462 := Nat.le_trans HB l464
  have n469 : q449 ≠ q462 := E443.apart 0 2 (by decide) (by decide) (by decide) ⟨_, _, _, rfl⟩ ⟨_, _, _, rfl⟩ none _ none _ p450 p463
  have n470 : q455 ≠ q462 := E443.apart 1 2 (by decide) (by decide) (by decide) ⟨_, _, _, rfl⟩ ⟨_, _, _, rfl⟩ none _ none _ p456 p463
  refine then_normal ?_
  refine wp_seq ?_
  have HB : w.heap.size ≤ v443.heap.size := T444.size
  refine wp_plan_any [.val (.az N0 z), .val (.az N1 u), .val (.cz (-u)), .val (.cz (z + (-u))), .put 4 8] [4] [q462] w.heap.size (by kernel_rfl) (by kernel_rfl) (by kernel_rfl) ⟨p463, b466.lt, (by simp), trivial⟩ HB ?_ ?_
  · exact ⟨fun s v h => does_val rfl rfl (x_load_z ((h.same 2 rfl).trans p450) ((h.far q449 b453.lt (nin1 n469)).trans b453)) (f445.mono ((Mono.drew _).trans h.mono)),
      fun s v h => does_val rfl rfl (x_load_z ((h.same 3 rfl).trans p456) ((h.far q455 b459.lt (nin1 n470)).trans b459)) (f447.mono ((Mono.drew _).trans h.mono)),
      fun s v h => does_call rfl rfl (x_call1 Try.call48) (r2neg_k (h.dep 1 rfl) (by omega)),
      fun s v h => does_call rfl rfl (x_call2 Try.call62) (r2add_k (h.dep 0 rfl) ((h.dep 2 rfl).az (N := N1) (len_neg la1)) (by omega) (by omega)),
      fun s v h => does_put_z rfl rfl ((h.same 4 rfl).trans p463) (h.dep 3 rfl).shape (((Mono.drew _).trans h.mono).ok _ _ b466.ok2) h468, trivial⟩
  intro g471 ts v471 hts E471
  simp only [fillL, Nat.reduceAdd, List.setIfInBounds_toArray, List.set_cons_zero, List.set_cons_succ] at hts
  subst hts
  have T472 : Below w.heap.size w v471 := (below_toDrew T444).trans E471.below
  have l473 : q449 < v443.heap.size := b453.lt
  have l474 : q455 < v443.heap.size := b459.lt
  have l475 : q462 < v443.heap.size := b466.lt
  have f486 : Cz v471 (g471 3) (z + (-u)) := E471.facts 3 (by decide)
  obtain ⟨t487, x489, A490, m491, c492, e493, b488⟩ := put_info (E471.facts 4 (by decide)) p463 f486.shape
  have f494 : Cz v471 (.agg #[.bool x489, .slice A490 m491 c492]) (z + (-u)) := f486.at e493.symm
  refine then_normal ?_
  refine wp_ret ?_
  exact bodyPost_ret (ret_c rfl p463 b488) rfl ⟨_, rfl, (by have := f494; rwa [← Int.sub_eq_add_neg] at this), T472⟩

set_option maxHeartbeats 4000000 in
set_option maxRecDepth 8000 in
theorem r2mul_k {w : World} {x : Value} {z : Int} {N0 : Nat} (h0 : Az N0 w x z) {y : Value} {u : Int} {N1 : Nat} (h1 : Az N1 w y u) (hN : N0 + N1 ≤ 35184372088832)  : Calls Try.prog 61 #[x, y] w (Ret (.cz (z * u)) w) := by
  have la0 := h0.len
  obtain ⟨na0, A0, n0, c0, M0, rfl, hm0, hz0⟩ := h0.parts
  have la1 := h1.len
  obtain ⟨na1, A1, n1, c1, M1, rfl, hm1, hz1⟩ := h1.parts
  have T0 : Below w.heap.size w w := Below.refl _ _
  go_enter Try.func61, Try.ntmps61
  refine wp_seq ?_
  have HB : w.heap.size ≤ w.heap.size := T0.size
  refine wp_plan_seq [.new 2 (some (24, #[.bool na0, .slice A0 n0 c0])), .new 2 (some (24, #[.bool na1, .slice A1 n1 c1])), .new 2 (some (24, #[.bool false, .slice none 0 0]))] [] [] w.heap.size (by kernel_rfl) (by kernel_rfl) trivial HB ?_ ?_
  · exact ⟨fun s v h => does_new rfl rfl (x_box_z (h.same 0 rfl)) (okz _ _ _ _) rfl (.inr rfl),
      fun s v h => does_new rfl rfl (x_box_z (h.same 1 rfl)) (okz _ _ _ _) rfl (.inr rfl),
      fun s v h => does_new rfl rfl x_alloc_z (okz _ _ _ _) rfl (.inr rfl), trivial⟩
  intro g495 ts v495 hts E495
  simp only [fillL, Nat.reduceAdd, List.setIfInBounds_toArray, List.set_cons_zero, List.set_cons_succ] at hts
  subst hts
  have T496 : Below w.heap.size w v495 := T0.trans E495.below
  have f498 := hm0.mono E495.mono
  have f500 := hm1.mono E495.mono
  obtain ⟨q501, p502, l503, o504, b505⟩ : ∃ q, g495 0 = .pointer (some ⟨q, 0, none⟩) ∧ w.heap.size ≤ q ∧ OkB v495 q 2 ∧ Bx v495 q 24 #[.bool na0, .slice A0 n0 c0] := E495.facts 0 (by decide)
  have h506 : w.heap.size ≤ q501 := Nat.le_trans HB l503
  obtain ⟨q507, p508, l509, o510, b511⟩ : ∃ q, g495 1 = .pointer (some ⟨q, 0, none⟩) ∧ w.heap.size ≤ q ∧ OkB v495 q 2 ∧ Bx v495 q 24 #[.bool na1, .slice A1 n1 c1] := E495.facts 1 (by decide)
  have h512 : w.heap.size ≤ q507 := Nat.le_trans HB l509
  obtain ⟨q514, p515, l516, o517, b518⟩ : ∃ q, g495 2 = .pointer (some ⟨q, 0, none⟩) ∧ w.heap.size ≤ q ∧ OkB v495 q 2 ∧ Bx v495 q 24 #[.bool false, .slice none 0 0] := E495.facts 2 (by decide)
  have h520 : w.heap.size ≤ q514 := Nat.le_trans HB l516
  have n521 : q501 ≠ q514 := E495.apart 0 2 (by decide) (by decide) (by decide) ⟨_, _, _, rfl⟩ ⟨_, _, _, rfl⟩ none _ none _ p502 p515
  have n522 : q507 ≠ q514 := E495.apart 1 2 (by decide) (by decide) (by decide) ⟨_, _, _, rfl⟩ ⟨_, _, _, rfl⟩ none _ none _ p508 p515
  refine then_normal ?_
  refine wp_seq ?_
  have HB : w.heap.size ≤ v495.heap.size := T496.size
  refine wp_plan_any [.val (.is (.pointer (some ⟨q501, 0, none⟩))), .val (.is (.bool na0)), .val (.is (.pointer (some ⟨q507, 0, none⟩))), .val (.is (.bool na1)), .val (.is (.bool (!(na0 == na1)))), .val (.is (.pointer (some ⟨q501, 1, none⟩))), .val (.nz N0 M0), .val (.is (.pointer (some ⟨q507, 1, none⟩))), .val (.nz N1 M1), .val (.nz (N0 + N1) (M0 * M1)), .val (.cz (zof (!(na0 == na1)) (M0 * M1))), .put 4 15] [4] [q514] w.heap.size (by kernel_rfl) (by kernel_rfl) (by kernel_rfl) ⟨p515, b518.lt, (by simp), trivial⟩ HB ?_ ?_
  · exact ⟨fun s v h => does_val rfl rfl (x_fld (by decide) ((h.same 2 rfl).trans p502)) rfl,
      fun s v h => does_val rfl rfl (x_load_b (h.dep 0 rfl) ((h.far q501 b505.lt (nin1 n521)).trans b505)) rfl,
      fun s v h => does_val rfl rfl (x_fld (by decide) ((h.same 3 rfl).trans p508)) rfl,
      fun s v h => does_val rfl rfl (x_load_b (h.dep 2 rfl) ((h.far q507 b511.lt (nin1 n522)).trans b511)) rfl,
      fun s v h => does_val rfl rfl (x_neq_bool (h.dep 1 rfl) (h.dep 3 rfl)) rfl,
      fun s v h => does_val rfl rfl (x_fld (by decide) ((h.same 2 rfl).trans p502)) rfl,
      fun s v h => does_val rfl rfl (x_load_s (h.dep 5 rfl) ((h.far q501 b505.lt (nin1 n521)).trans b505)) (f498.mono ((Mono.drew _).trans h.mono)),
      fun s v h => does_val rfl rfl (x_fld (by decide) ((h.same 3 rfl).trans p508)) rfl,
      fun s v h => does_val rfl rfl (x_load_s (h.dep 7 rfl) ((h.far q507 b511.lt (nin1 n522)).trans b511)) (f500.mono ((Mono.drew _).trans h.mono)),
      fun s v h => does_call rfl rfl (x_call2 Try.call85) (rmul_k (h.dep 6 rfl) (h.dep 8 rfl) (by omega) (by omega)),
      fun s v h => does_call rfl rfl (x_call2 Try.call81) (rmade_k (h.dep 4 rfl) (h.dep 9 rfl) (by omega)),
      fun s v h => does_put_z rfl rfl ((h.same 4 rfl).trans p515) (h.dep 10 rfl).shape (((Mono.drew _).trans h.mono).ok _ _ b518.ok2) h520, trivial⟩
  intro g523 ts v523 hts E523
  simp only [fillL, Nat.reduceAdd, List.setIfInBounds_toArray, List.set_cons_zero, List.set_cons_succ] at hts
  subst hts
  have T524 : Below w.heap.size w v523 := (below_toDrew T496).trans E523.below
  have l525 : q501 < v495.heap.size := b505.lt
  have l526 : q507 < v495.heap.size := b511.lt
  have l527 : q514 < v495.heap.size := b518.lt
  have f541 : Cz v523 (g523 10) (zof (!(na0 == na1)) (M0 * M1)) := E523.facts 10 (by decide)
  obtain ⟨t542, x544, A545, m546, c547, e548, b543⟩ := put_info (E523.facts 11 (by decide)) p515 f541.shape
  have f549 : Cz v523 (.agg #[.bool x544, .slice A545 m546 c547]) (zof (!(na0 == na1)) (M0 * M1)) := f541.at e548.symm
  refine then_normal ?_
  refine wp_ret ?_
  exact bodyPost_ret (ret_c rfl p515 b543) rfl ⟨_, rfl, (by have := f549; rw [← hz0, ← hz1, ← zof_mul]; exact this), T524⟩

set_option maxHeartbeats 4000000 in
set_option maxRecDepth 8000 in
theorem zgcd_k {w : World} {x : Value} {z : Int} {N0 : Nat} (h0 : Az N0 w x z) {y : Value} {u : Int} {N1 : Nat} (h1 : Az N1 w y u) (hN0 : N0 ≤ 35184372088829) (hN1 : N1 ≤ 35184372088829)  : Calls Try.prog 79 #[x, y] w (Ret (.cz (Int.gcd z u : Int)) w) := by
  have la0 := h0.len
  obtain ⟨na0, A0, n0, c0, M0, rfl, hm0, hz0⟩ := h0.parts
  have la1 := h1.len
  obtain ⟨na1, A1, n1, c1, M1, rfl, hm1, hz1⟩ := h1.parts
  have T0 : Below w.heap.size w w := Below.refl _ _
  go_enter Try.func79, Try.ntmps79
  refine wp_seq ?_
  have HB : w.heap.size ≤ w.heap.size := T0.size
  refine wp_plan_seq [.new 2 (some (24, #[.bool na0, .slice A0 n0 c0])), .new 2 (some (24, #[.bool na1, .slice A1 n1 c1])), .new 2 (some (24, #[.bool false, .slice none 0 0]))] [] [] w.heap.size (by kernel_rfl) (by kernel_rfl) trivial HB ?_ ?_
  · exact ⟨fun s v h => does_new rfl rfl (x_box_z (h.same 0 rfl)) (okz _ _ _ _) rfl (.inr rfl),
      fun s v h => does_new rfl rfl (x_box_z (h.same 1 rfl)) (okz _ _ _ _) rfl (.inr rfl),
      fun s v h => does_new rfl rfl x_alloc_z (okz _ _ _ _) rfl (.inr rfl), trivial⟩
  intro g585 ts v585 hts E585
  simp only [fillL, Nat.reduceAdd, List.setIfInBounds_toArray, List.set_cons_zero, List.set_cons_succ] at hts
  subst hts
  have T586 : Below w.heap.size w v585 := T0.trans E585.below
  have f588 := hm0.mono E585.mono
  have f590 := hm1.mono E585.mono
  obtain ⟨q591, p592, l593, o594, b595⟩ : ∃ q, g585 0 = .pointer (some ⟨q, 0, none⟩) ∧ w.heap.size ≤ q ∧ OkB v585 q 2 ∧ Bx v585 q 24 #[.bool na0, .slice A0 n0 c0] := E585.facts 0 (by decide)
  have h596 : w.heap.size ≤ q591 := Nat.le_trans HB l593
  obtain ⟨q597, p598, l599, o600, b601⟩ : ∃ q, g585 1 = .pointer (some ⟨q, 0, none⟩) ∧ w.heap.size ≤ q ∧ OkB v585 q 2 ∧ Bx v585 q 24 #[.bool na1, .slice A1 n1 c1] := E585.facts 1 (by decide)
  have h602 : w.heap.size ≤ q597 := Nat.le_trans HB l599
  obtain ⟨q604, p605, l606, o607, b608⟩ : ∃ q, g585 2 = .pointer (some ⟨q, 0, none⟩) ∧ w.heap.size ≤ q ∧ OkB v585 q 2 ∧ Bx v585 q 24 #[.bool false, .slice none 0 0] := E585.facts 2 (by decide)
  have h610 : w.heap.size ≤ q604 := Nat.le_trans HB l606
  have n611 : q591 ≠ q604 := E585.apart 0 2 (by decide) (by decide) (by decide) ⟨_, _, _, rfl⟩ ⟨_, _, _, rfl⟩ none _ none _ p592 p605
  have n612 : q597 ≠ q604 := E585.apart 1 2 (by decide) (by decide) (by decide) ⟨_, _, _, rfl⟩ ⟨_, _, _, rfl⟩ none _ none _ p598 p605
  refine then_normal ?_
  refine wp_seq ?_
  have HB : w.heap.size ≤ v585.heap.size := T586.size
  refine wp_plan_seq [.val (.is (.pointer (some ⟨q591, 1, none⟩))), .val (.nz N0 M0), .val (.is (.pointer (some ⟨q597, 1, none⟩))), .val (.nz N1 M1), .val (.nz (N0 + N1) (Nat.gcd M0 M1)), .val (.cz (zof false (Nat.gcd M0 M1))), .put 4 10] [4] [q604] w.heap.size (by kernel_rfl) (by kernel_rfl) ⟨p605, b608.lt, (by simp), trivial⟩ HB ?_ ?_
  · exact ⟨fun s v h => does_val rfl rfl (x_fld (by decide) ((h.same 2 rfl).trans p592)) rfl,
      fun s v h => does_val rfl rfl (x_load_s (h.dep 0 rfl) ((h.far q591 b595.lt (nin1 n611)).trans b595)) (f588.mono h.mono),
      fun s v h => does_val rfl rfl (x_fld (by decide) ((h.same 3 rfl).trans p598)) rfl,
      fun s v h => does_val rfl rfl (x_load_s (h.dep 2 rfl) ((h.far q597 b601.lt (nin1 n612)).trans b601)) (f590.mono h.mono),
      fun s v h => does_call rfl rfl (x_call2 Try.call108) (ngcd_k (h.dep 1 rfl) (h.dep 3 rfl) (by omega) (by omega) (by omega) (by omega)),
      fun s v h => does_call rfl rfl (x_call2 Try.call76) (zmade_k rfl (h.dep 4 rfl)),
      fun s v h => does_put_z rfl rfl ((h.same 4 rfl).trans p605) (h.dep 5 rfl).shape (h.mono.ok _ _ b608.ok2) h610, trivial⟩
  intro g613 ts v613 hts E613
  simp only [fillL, Nat.reduceAdd, List.setIfInBounds_toArray, List.set_cons_zero, List.set_cons_succ] at hts
  subst hts
  have T614 : Below w.heap.size w v613 := T586.trans E613.below
  have l615 : q591 < v585.heap.size := b595.lt
  have l616 : q597 < v585.heap.size := b601.lt
  have l617 : q604 < v585.heap.size := b608.lt
  have f628 : Cz v613 (g613 5) (zof false (Nat.gcd M0 M1)) := E613.facts 5 (by decide)
  obtain ⟨t629, x631, A632, m633, c634, e635, b630⟩ := put_info (E613.facts 6 (by decide)) p605 f628.shape
  have f636 : Cz v613 (.agg #[.bool x631, .slice A632 m633 c634]) (zof false (Nat.gcd M0 M1)) := f628.at e635.symm
  refine then_normal ?_
  refine wp_ret ?_
  exact bodyPost_ret (ret_c rfl p605 b630) rfl ⟨_, rfl, (by have := f636; rw [← hz0, ← hz1]; unfold Int.gcd; rw [zof_abs, zof_abs]; exact this), T614⟩

end Go.Proofs.Ytdmahjbjlppeaaa
