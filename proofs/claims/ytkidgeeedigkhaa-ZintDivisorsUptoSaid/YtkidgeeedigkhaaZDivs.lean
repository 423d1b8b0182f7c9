/- The law ZintDivisors. -/
import Derived.Test.YtkidgeeedigkhaaYBez
import Derived.Test.YtkidgeeedigkhaaA6
namespace Go.Proofs.Ytkidgeeedigkhaa
open Go.RowKit

set_option maxHeartbeats 4000000 in
set_option maxRecDepth 8000 in
theorem zd_n {w : World} {x0 : Value} {a : Int} (h0 : Az 1048576 w x0 a) {y0 : Value} {b : Int} (h1 : Az 1048576 w y0 b) (hu : b ≠ 0) (d1 : (b.sign == 0) = false)  : Calls Try.prog 6 #[x0, y0] w (Ret (.is (.bool true)) w) := by
  have la0 := h0.len
  obtain ⟨na0, A0, n0, c0, M0, rfl, hm0, hz0⟩ := h0.parts
  have la1 := h1.len
  obtain ⟨na1, A1, n1, c1, M1, rfl, hm1, hz1⟩ := h1.parts
  have T0 : Below w.heap.size w w := Below.refl _ _
  go_enter Try.func6, Try.ntmps6
  refine wp_seq ?_
  have HB : w.heap.size ≤ w.heap.size := T0.size
  refine wp_plan_seq [.new 2 (some (24, #[.bool na0, .slice A0 n0 c0])), .new 2 (some (24, #[.bool na1, .slice A1 n1 c1])), .val (.is (.bool false))] [] [] w.heap.size (by kernel_rfl) (by kernel_rfl) trivial HB ?_ ?_
  · exact ⟨fun s v h => does_new rfl rfl (x_box_z (h.same 0 rfl)) (okz _ _ _ _) rfl (.inr rfl),
      fun s v h => does_new rfl rfl (x_box_z (h.same 1 rfl)) (okz _ _ _ _) rfl (.inr rfl),
      fun s v h => does_val rfl rfl (x_assign) rfl, trivial⟩
  intro g1 ts v1 hts E1
  simp only [fillL, Nat.reduceAdd, List.setIfInBounds_toArray, List.set_cons_zero, List.set_cons_succ] at hts
  subst hts
  have T2 : Below w.heap.size w v1 := T0.trans E1.below
  have f3 := h0.mono E1.mono
  have f4 := hm0.mono E1.mono
  have f5 := h1.mono E1.mono
  have f6 := hm1.mono E1.mono
  have e7 : g1 2 = (.bool false) := E1.facts 2 (by decide)
  obtain ⟨q8, p9, l10, o11, b12⟩ : ∃ q, g1 0 = .pointer (some ⟨q, 0, none⟩) ∧ w.heap.size ≤ q ∧ OkB v1 q 2 ∧ Bx v1 q 24 #[.bool na0, .slice A0 n0 c0] := E1.facts 0 (by decide)
  have h13 : w.heap.size ≤ q8 := Nat.le_trans HB l10
  obtain ⟨q14, p15, l16, o17, b18⟩ : ∃ q, g1 1 = .pointer (some ⟨q, 0, none⟩) ∧ w.heap.size ≤ q ∧ OkB v1 q 2 ∧ Bx v1 q 24 #[.bool na1, .slice A1 n1 c1] := E1.facts 1 (by decide)
  have h19 : w.heap.size ≤ q14 := Nat.le_trans HB l16
  have n20 : q8 ≠ q14 := apart_ne (E1.apart 0 1 (by decide) (by decide) (by decide) ⟨_, _, rfl⟩ ⟨_, _, rfl⟩) p9 p15
  refine then_normal ?_
  refine wp_seq ?_
  refine wp_seq ?_
  have HB : w.heap.size ≤ v1.heap.size := T2.size
  refine wp_plan_any [.val (.az 1048576 a), .val (.az 1048576 a), .val (.az 1048576 b), .val (.az 1048576 b), .val (.cz (Int.gcd a b : Int)), .val (.az 1048576 a), .val (.az 1048576 b), .val (.cz (Int.gcd a b : Int)), .val (.is (.bool true)), .val (.is (.bool false))] [] [] w.heap.size (by kernel_rfl) (by kernel_rfl) (by kernel_rfl) trivial HB ?_ ?_
  · exact ⟨fun s v h => does_val rfl rfl (x_load_z ((h.same 2 rfl).trans p9) ((h.far q8 b12.lt (by simp)).trans b12)) (f3.mono ((Mono.drew _).trans h.mono)),
      fun s v h => does_call rfl rfl (x_call1 Try.call18) (own_k (h.dep 0 rfl) (by omega)),
      fun s v h => does_val rfl rfl (x_load_z ((h.same 3 rfl).trans p15) ((h.far q14 b18.lt (by simp)).trans b18)) (f5.mono ((Mono.drew _).trans h.mono)),
      fun s v h => does_call rfl rfl (x_call1 Try.call18) (own_k (h.dep 2 rfl) (by omega)),
      fun s v h => does_call rfl rfl (x_call2 Try.call31) (zgcd_k (h.dep 1 rfl) (h.dep 3 rfl) (by omega) (by omega)),
      fun s v h => does_val rfl rfl (x_load_z ((h.same 2 rfl).trans p9) ((h.far q8 b12.lt (by simp)).trans b12)) (f3.mono ((Mono.drew _).trans h.mono)),
      fun s v h => does_val rfl rfl (x_load_z ((h.same 3 rfl).trans p15) ((h.far q14 b18.lt (by simp)).trans b18)) (f5.mono ((Mono.drew _).trans h.mono)),
      fun s v h => does_call rfl rfl (x_call2 Try.call32) (r2gcd_k (h.dep 5 rfl) (h.dep 6 rfl) (by omega) (by omega)),
      fun s v h => does_call rfl rfl (x_call2 Try.call12) (eq_k (h.dep 4 rfl) (h.dep 7 rfl) rfl),
      fun s v h => does_val rfl rfl (x_not (h.dep 8 rfl)) rfl, trivial⟩
  intro g21 ts v21 hts E21
  simp only [fillL, Nat.reduceAdd, List.setIfInBounds_toArray, List.set_cons_zero, List.set_cons_succ] at hts
  subst hts
  have T22 : Below w.heap.size w v21 := (below_toDrew T2).trans E21.below
  have l23 : q8 < v1.heap.size := b12.lt
  have l24 : q14 < v1.heap.size := b18.lt
  have b25 : Bx v21 q8 24 #[.bool na0, .slice A0 n0 c0] := (E21.far q8 b12.lt (by simp)).trans b12
  have b26 : Bx v21 q14 24 #[.bool na1, .slice A1 n1 c1] := (E21.far q14 b18.lt (by simp)).trans b18
  have f27 := f3.mono ((Mono.drew _).trans E21.mono)
  have f28 := f4.mono ((Mono.drew _).trans E21.mono)
  have f29 := f5.mono ((Mono.drew _).trans E21.mono)
  have f30 := f6.mono ((Mono.drew _).trans E21.mono)
  have f31 : Az 1048576 v21 (g21 0) a := E21.facts 0 (by decide)
  have f32 : Az 1048576 v21 (g21 1) a := E21.facts 1 (by decide)
  have f33 : Az 1048576 v21 (g21 2) b := E21.facts 2 (by decide)
  have f34 : Az 1048576 v21 (g21 3) b := E21.facts 3 (by decide)
  have f35 : Cz v21 (g21 4) (Int.gcd a b : Int) := E21.facts 4 (by decide)
  have f36 : Az 1048576 v21 (g21 5) a := E21.facts 5 (by decide)
  have f37 : Az 1048576 v21 (g21 6) b := E21.facts 6 (by decide)
  have f38 : Cz v21 (g21 7) (Int.gcd a b : Int) := E21.facts 7 (by decide)
  have e39 : g21 8 = (.bool true) := E21.facts 8 (by decide)
  have e40 : g21 9 = (.bool false) := E21.facts 9 (by decide)
  refine then_normal ?_
  refine wp_cond_false e40 ?_
  refine wp_skip ?_
  refine then_normal ?_
  refine wp_seq ?_
  have HB : w.heap.size ≤ v21.heap.size := T22.size
  refine wp_plan_any [.val (.az 1048576 a), .val (.az 1048576 a), .val (.az 1048576 b), .val (.az 1048576 b), .val (.tup3 (.cz (Int.gcd a b : Int)) (.cz (bezX a b)) (.cz (fl ((Int.gcd a b : Int) - bezX a b * a) b))), .val (.tup3 (.cz (Int.gcd a b : Int)) (.cz (bezX a b)) (.cz (fl ((Int.gcd a b : Int) - bezX a b * a) b))), .val (.cz (Int.gcd a b : Int)), .val (.cz (bezX a b)), .val (.cz (fl ((Int.gcd a b : Int) - bezX a b * a) b)), .new 2 none, .new 2 none, .new 2 none, .put 5 27, .put 6 28, .put 7 29] [] [] w.heap.size (by kernel_rfl) (by kernel_rfl) (by kernel_rfl) trivial HB ?_ ?_
  · exact ⟨fun s v h => does_val rfl rfl (x_load_z ((h.same 2 rfl).trans p9) ((h.far q8 b25.lt (by simp)).trans b25)) (f27.mono ((Mono.drew _).trans h.mono)),
      fun s v h => does_call rfl rfl (x_call1 Try.call18) (own_k (h.dep 0 rfl) (by omega)),
      fun s v h => does_val rfl rfl (x_load_z ((h.same 3 rfl).trans p15) ((h.far q14 b26.lt (by simp)).trans b26)) (f29.mono ((Mono.drew _).trans h.mono)),
      fun s v h => does_call rfl rfl (x_call1 Try.call18) (own_k (h.dep 2 rfl) (by omega)),
      fun s v h => does_call rfl rfl (x_call2 Try.call33) (zbezout_n (h.dep 1 rfl) (h.dep 3 rfl) (by omega) hu d1),
      fun s v h => does_val rfl rfl (x_move) (h.dep 4 rfl),
      fun s v h => by obtain ⟨r0, r1, r2, e, f0, f1, f2⟩ := tup3_at (h.dep 5 rfl); exact does_val rfl rfl (x_ext e rfl) f0,
      fun s v h => by obtain ⟨r0, r1, r2, e, f0, f1, f2⟩ := tup3_at (h.dep 5 rfl); exact does_val rfl rfl (x_ext e rfl) f1,
      fun s v h => by obtain ⟨r0, r1, r2, e, f0, f1, f2⟩ := tup3_at (h.dep 5 rfl); exact does_val rfl rfl (x_ext e rfl) f2,
      fun s v h => does_new rfl rfl x_alloc_z (okz _ _ _ _) rfl (.inl rfl),
      fun s v h => does_new rfl rfl x_alloc_z (okz _ _ _ _) rfl (.inl rfl),
      fun s v h => does_new rfl rfl x_alloc_z (okz _ _ _ _) rfl (.inl rfl),
      fun s v h => by obtain ⟨q, e1, e2, e3⟩ := new_at (h.dep 9 rfl); exact does_put_z rfl rfl e1 (h.dep 6 rfl).shape e3 (Nat.le_trans HB e2),
      fun s v h => by obtain ⟨q, e1, e2, e3⟩ := new_at (h.dep 10 rfl); exact does_put_z rfl rfl e1 (h.dep 7 rfl).shape e3 (Nat.le_trans HB e2),
      fun s v h => by obtain ⟨q, e1, e2, e3⟩ := new_at (h.dep 11 rfl); exact does_put_z rfl rfl e1 (h.dep 8 rfl).shape e3 (Nat.le_trans HB e2), trivial⟩
  intro g41 ts v41 hts E41
  simp only [fillL, Nat.reduceAdd, List.setIfInBounds_toArray, List.set_cons_zero, List.set_cons_succ] at hts
  subst hts
  have T42 : Below w.heap.size w v41 := (below_toDrew T22).trans E41.below
  have l43 : q8 < v21.heap.size := b25.lt
  have l44 : q14 < v21.heap.size := b26.lt
  have b45 : Bx v41 q8 24 #[.bool na0, .slice A0 n0 c0] := (E41.far q8 b25.lt (by simp)).trans b25
  have b46 : Bx v41 q14 24 #[.bool na1, .slice A1 n1 c1] := (E41.far q14 b26.lt (by simp)).trans b26
  have f47 := f27.mono ((Mono.drew _).trans E41.mono)
  have f48 := f28.mono ((Mono.drew _).trans E41.mono)
  have f49 := f29.mono ((Mono.drew _).trans E41.mono)
  have f50 := f30.mono ((Mono.drew _).trans E41.mono)
  have f51 := f31.mono ((Mono.drew _).trans E41.mono)
  have f52 := f32.mono ((Mono.drew _).trans E41.mono)
  have f53 := f33.mono ((Mono.drew _).trans E41.mono)
  have f54 := f34.mono ((Mono.drew _).trans E41.mono)
  have f55 := f35.mono ((Mono.drew _).trans E41.mono)
  have f56 := f36.mono ((Mono.drew _).trans E41.mono)
  have f57 := f37.mono ((Mono.drew _).trans E41.mono)
  have f58 := f38.mono ((Mono.drew _).trans E41.mono)
  have f59 : Az 1048576 v41 (g41 0) a := E41.facts 0 (by decide)
  have f60 : Az 1048576 v41 (g41 1) a := E41.facts 1 (by decide)
  have f61 : Az 1048576 v41 (g41 2) b := E41.facts 2 (by decide)
  have f62 : Az 1048576 v41 (g41 3) b := E41.facts 3 (by decide)
  have f63 : Cz v41 (g41 6) (Int.gcd a b : Int) := E41.facts 6 (by decide)
  have f64 : Cz v41 (g41 7) (bezX a b) := E41.facts 7 (by decide)
  have f65 : Cz v41 (g41 8) (fl ((Int.gcd a b : Int) - bezX a b * a) b) := E41.facts 8 (by decide)
  obtain ⟨q66, p67, l68, o69⟩ : ∃ q, g41 9 = .pointer (some ⟨q, 0, none⟩) ∧ v21.heap.size ≤ q ∧ OkB v41 q 2 := E41.facts 9 (by decide)
  have h70 : w.heap.size ≤ q66 := Nat.le_trans HB l68
  have n71 : q8 ≠ q66 := by omega
  have n72 : q14 ≠ q66 := by omega
  obtain ⟨q73, p74, l75, o76⟩ : ∃ q, g41 10 = .pointer (some ⟨q, 0, none⟩) ∧ v21.heap.size ≤ q ∧ OkB v41 q 2 := E41.facts 10 (by decide)
  have h77 : w.heap.size ≤ q73 := Nat.le_trans HB l75
  have n78 : q8 ≠ q73 := by omega
  have n79 : q14 ≠ q73 := by omega
  have n80 : q66 ≠ q73 := apart_ne (E41.apart 9 10 (by decide) (by decide) (by decide) ⟨_, _, rfl⟩ ⟨_, _, rfl⟩) p67 p74
  obtain ⟨q81, p82, l83, o84⟩ : ∃ q, g41 11 = .pointer (some ⟨q, 0, none⟩) ∧ v21.heap.size ≤ q ∧ OkB v41 q 2 := E41.facts 11 (by decide)
  have h85 : w.heap.size ≤ q81 := Nat.le_trans HB l83
  have n86 : q8 ≠ q81 := by omega
  have n87 : q14 ≠ q81 := by omega
  have n88 : q66 ≠ q81 := apart_ne (E41.apart 9 11 (by decide) (by decide) (by decide) ⟨_, _, rfl⟩ ⟨_, _, rfl⟩) p67 p82
  have n89 : q73 ≠ q81 := apart_ne (E41.apart 10 11 (by decide) (by decide) (by decide) ⟨_, _, rfl⟩ ⟨_, _, rfl⟩) p74 p82
  obtain ⟨t90, x92, A93, m94, c95, e96, b91⟩ := put_info (E41.facts 12 (by decide)) p67 f63.shape
  have f97 : Cz v41 (.agg #[.bool x92, .slice A93 m94 c95]) (Int.gcd a b : Int) := f63.at e96.symm
  obtain ⟨t98, x100, A101, m102, c103, e104, b99⟩ := put_info (E41.facts 13 (by decide)) p74 f64.shape
  have f105 : Cz v41 (.agg #[.bool x100, .slice A101 m102 c103]) (bezX a b) := f64.at e104.symm
  obtain ⟨t106, x108, A109, m110, c111, e112, b107⟩ := put_info (E41.facts 14 (by decide)) p82 f65.shape
  have f113 : Cz v41 (.agg #[.bool x108, .slice A109 m110 c111]) (fl ((Int.gcd a b : Int) - bezX a b * a) b) := f65.at e112.symm
  refine then_normal ?_
  refine wp_seq ?_
  have HB : w.heap.size ≤ v41.heap.size := T42.size
  refine wp_plan_seq [.val (.az 1048576 a), .val (.az 1048576 b), .val (.tup3 (.cz (Int.gcd a b : Int)) (.cz (bezX a b)) (.cz (fl ((Int.gcd a b : Int) - bezX a b * a) b))), .val (.tup3 (.cz (Int.gcd a b : Int)) (.cz (bezX a b)) (.cz (fl ((Int.gcd a b : Int) - bezX a b * a) b))), .val (.cz (Int.gcd a b : Int)), .val (.cz (bezX a b)), .val (.cz (fl ((Int.gcd a b : Int) - bezX a b * a) b)), .new 2 none, .new 2 none, .new 2 none, .put 8 34, .put 9 35, .put 10 36] [] [] w.heap.size (by kernel_rfl) (by kernel_rfl) trivial HB ?_ ?_
  · exact ⟨fun s v h => does_val rfl rfl (x_load_z ((h.same 2 rfl).trans p9) ((h.far q8 b45.lt (by simp)).trans b45)) (f47.mono h.mono),
      fun s v h => does_val rfl rfl (x_load_z ((h.same 3 rfl).trans p15) ((h.far q14 b46.lt (by simp)).trans b46)) (f49.mono h.mono),
      fun s v h => does_call rfl rfl (x_call2 Try.call34) (r2bezout_n (h.dep 0 rfl) (h.dep 1 rfl) (by omega) hu d1),
      fun s v h => does_val rfl rfl (x_move) (h.dep 2 rfl),
      fun s v h => by obtain ⟨r0, r1, r2, e, f0, f1, f2⟩ := tup3_at (h.dep 3 rfl); exact does_val rfl rfl (x_ext e rfl) f0,
      fun s v h => by obtain ⟨r0, r1, r2, e, f0, f1, f2⟩ := tup3_at (h.dep 3 rfl); exact does_val rfl rfl (x_ext e rfl) f1,
      fun s v h => by obtain ⟨r0, r1, r2, e, f0, f1, f2⟩ := tup3_at (h.dep 3 rfl); exact does_val rfl rfl (x_ext e rfl) f2,
      fun s v h => does_new rfl rfl x_alloc_z (okz _ _ _ _) rfl (.inl rfl),
      fun s v h => does_new rfl rfl x_alloc_z (okz _ _ _ _) rfl (.inl rfl),
      fun s v h => does_new rfl rfl x_alloc_z (okz _ _ _ _) rfl (.inl rfl),
      fun s v h => by obtain ⟨q, e1, e2, e3⟩ := new_at (h.dep 7 rfl); exact does_put_z rfl rfl e1 (h.dep 4 rfl).shape e3 (Nat.le_trans HB e2),
      fun s v h => by obtain ⟨q, e1, e2, e3⟩ := new_at (h.dep 8 rfl); exact does_put_z rfl rfl e1 (h.dep 5 rfl).shape e3 (Nat.le_trans HB e2),
      fun s v h => by obtain ⟨q, e1, e2, e3⟩ := new_at (h.dep 9 rfl); exact does_put_z rfl rfl e1 (h.dep 6 rfl).shape e3 (Nat.le_trans HB e2), trivial⟩
  intro g114 ts v114 hts E114
  simp only [fillL, Nat.reduceAdd, List.setIfInBounds_toArray, List.set_cons_zero, List.set_cons_succ] at hts
  subst hts
  have T115 : Below w.heap.size w v114 := T42.trans E114.below
  have l116 : q8 < v41.heap.size := b45.lt
  have l117 : q14 < v41.heap.size := b46.lt
  have l118 : q66 < v41.heap.size := b91.lt
  have l119 : q73 < v41.heap.size := b99.lt
  have l120 : q81 < v41.heap.size := b107.lt
  have b121 : Bx v114 q8 24 #[.bool na0, .slice A0 n0 c0] := (E114.far q8 b45.lt (by simp)).trans b45
  have b122 : Bx v114 q14 24 #[.bool na1, .slice A1 n1 c1] := (E114.far q14 b46.lt (by simp)).trans b46
  have b123 : Bx v114 q66 t90 #[.bool x92, .slice A93 m94 c95] := (E114.far q66 b91.lt (by simp)).trans b91
  have b124 : Bx v114 q73 t98 #[.bool x100, .slice A101 m102 c103] := (E114.far q73 b99.lt (by simp)).trans b99
  have b125 : Bx v114 q81 t106 #[.bool x108, .slice A109 m110 c111] := (E114.far q81 b107.lt (by simp)).trans b107
  have f126 := f47.mono E114.mono
  have f127 := f48.mono E114.mono
  have f128 := f49.mono E114.mono
  have f129 := f50.mono E114.mono
  have f130 := f51.mono E114.mono
  have f131 := f52.mono E114.mono
  have f132 := f53.mono E114.mono
  have f133 := f54.mono E114.mono
  have f134 := f55.mono E114.mono
  have f135 := f56.mono E114.mono
  have f136 := f57.mono E114.mono
  have f137 := f58.mono E114.mono
  have f138 := f59.mono E114.mono
  have f139 := f60.mono E114.mono
  have f140 := f61.mono E114.mono
  have f141 := f62.mono E114.mono
  have f142 := f63.mono E114.mono
  have f143 := f64.mono E114.mono
  have f144 := f65.mono E114.mono
  have f145 := f97.mono E114.mono
  have f146 := f105.mono E114.mono
  have f147 := f113.mono E114.mono
  have f148 : Az 1048576 v114 (g114 0) a := E114.facts 0 (by decide)
  have f149 : Az 1048576 v114 (g114 1) b := E114.facts 1 (by decide)
  have f150 : Cz v114 (g114 4) (Int.gcd a b : Int) := E114.facts 4 (by decide)
  have f151 : Cz v114 (g114 5) (bezX a b) := E114.facts 5 (by decide)
  have f152 : Cz v114 (g114 6) (fl ((Int.gcd a b : Int) - bezX a b * a) b) := E114.facts 6 (by decide)
  obtain ⟨q153, p154, l155, o156⟩ : ∃ q, g114 7 = .pointer (some ⟨q, 0, none⟩) ∧ v41.heap.size ≤ q ∧ OkB v114 q 2 := E114.facts 7 (by decide)
  have h157 : w.heap.size ≤ q153 := Nat.le_trans HB l155
  have n158 : q8 ≠ q153 := by omega
  have n159 : q14 ≠ q153 := by omega
  have n160 : q66 ≠ q153 := by omega
  have n161 : q73 ≠ q153 := by omega
  have n162 : q81 ≠ q153 := by omega
  obtain ⟨q163, p164, l165, o166⟩ : ∃ q, g114 8 = .pointer (some ⟨q, 0, none⟩) ∧ v41.heap.size ≤ q ∧ OkB v114 q 2 := E114.facts 8 (by decide)
  have h167 : w.heap.size ≤ q163 := Nat.le_trans HB l165
  have n168 : q8 ≠ q163 := by omega
  have n169 : q14 ≠ q163 := by omega
  have n170 : q66 ≠ q163 := by omega
  have n171 : q73 ≠ q163 := by omega
  have n172 : q81 ≠ q163 := by omega
  have n173 : q153 ≠ q163 := apart_ne (E114.apart 7 8 (by decide) (by decide) (by decide) ⟨_, _, rfl⟩ ⟨_, _, rfl⟩) p154 p164
  obtain ⟨q174, p175, l176, o177⟩ : ∃ q, g114 9 = .pointer (some ⟨q, 0, none⟩) ∧ v41.heap.size ≤ q ∧ OkB v114 q 2 := E114.facts 9 (by decide)
  have h178 : w.heap.size ≤ q174 := Nat.le_trans HB l176
  have n179 : q8 ≠ q174 := by omega
  have n180 : q14 ≠ q174 := by omega
  have n181 : q66 ≠ q174 := by omega
  have n182 : q73 ≠ q174 := by omega
  have n183 : q81 ≠ q174 := by omega
  have n184 : q153 ≠ q174 := apart_ne (E114.apart 7 9 (by decide) (by decide) (by decide) ⟨_, _, rfl⟩ ⟨_, _, rfl⟩) p154 p175
  have n185 : q163 ≠ q174 := apart_ne (E114.apart 8 9 (by decide) (by decide) (by decide) ⟨_, _, rfl⟩ ⟨_, _, rfl⟩) p164 p175
  obtain ⟨t186, x188, A189, m190, c191, e192, b187⟩ := put_info (E114.facts 10 (by decide)) p154 f150.shape
  have f193 : Cz v114 (.agg #[.bool x188, .slice A189 m190 c191]) (Int.gcd a b : Int) := f150.at e192.symm
  obtain ⟨t194, x196, A197, m198, c199, e200, b195⟩ := put_info (E114.facts 11 (by decide)) p164 f151.shape
  have f201 : Cz v114 (.agg #[.bool x196, .slice A197 m198 c199]) (bezX a b) := f151.at e200.symm
  obtain ⟨t202, x204, A205, m206, c207, e208, b203⟩ := put_info (E114.facts 12 (by decide)) p175 f152.shape
  have f209 : Cz v114 (.agg #[.bool x204, .slice A205 m206 c207]) (fl ((Int.gcd a b : Int) - bezX a b * a) b) := f152.at e208.symm
  refine then_normal ?_
  refine wp_seq ?_
  have HB : w.heap.size ≤ v114.heap.size := T115.size
  refine wp_plan_seq [.val (.cz (Int.gcd a b : Int)), .val (.cz (Int.gcd a b : Int)), .val (.is (.bool true)), .val (.is (.bool true)), .val (.cz (bezX a b)), .val (.cz (bezX a b)), .val (.is (.bool true)), .val (.is (.bool true)), .val (.is (.bool true)), .val (.cz (fl ((Int.gcd a b : Int) - bezX a b * a) b)), .val (.cz (fl ((Int.gcd a b : Int) - bezX a b * a) b)), .val (.is (.bool true)), .val (.is (.bool true)), .val (.is (.bool true))] [] [] w.heap.size (by kernel_rfl) (by kernel_rfl) trivial HB ?_ ?_
  · exact ⟨fun s v h => does_val rfl rfl (x_load_z ((h.same 5 rfl).trans p67) ((h.far q66 b123.lt (by simp)).trans b123)) (f145.mono h.mono),
      fun s v h => does_val rfl rfl (x_load_z ((h.same 8 rfl).trans p154) ((h.far q153 b187.lt (by simp)).trans b187)) (f193.mono h.mono),
      fun s v h => does_call rfl rfl (x_call2 Try.call12) (eq_k (h.dep 0 rfl) (h.dep 1 rfl) rfl),
      fun s v h => does_val rfl rfl (x_move) (h.dep 2 rfl),
      fun s v h => does_val rfl (wanted_by (b := true) (want := true) rfl rfl (h.dep 3 rfl)) (x_load_z ((h.same 6 rfl).trans p74) ((h.far q73 b124.lt (by simp)).trans b124)) (f146.mono h.mono),
      fun s v h => does_val rfl (wanted_by (b := true) (want := true) rfl rfl (h.dep 3 rfl)) (x_load_z ((h.same 9 rfl).trans p164) ((h.far q163 b195.lt (by simp)).trans b195)) (f201.mono h.mono),
      fun s v h => does_call rfl (wanted_by (b := true) (want := true) rfl rfl (h.dep 3 rfl)) (x_call2 Try.call12) (eq_k (h.dep 4 rfl) (h.dep 5 rfl) rfl),
      fun s v h => does_val rfl rfl (x_pick (h.dep 3 rfl)) (h.dep 6 rfl),
      fun s v h => does_val rfl rfl (x_move) (h.dep 7 rfl),
      fun s v h => does_val rfl (wanted_by (b := true) (want := true) rfl rfl (h.dep 8 rfl)) (x_load_z ((h.same 7 rfl).trans p82) ((h.far q81 b125.lt (by simp)).trans b125)) (f147.mono h.mono),
      fun s v h => does_val rfl (wanted_by (b := true) (want := true) rfl rfl (h.dep 8 rfl)) (x_load_z ((h.same 10 rfl).trans p175) ((h.far q174 b203.lt (by simp)).trans b203)) (f209.mono h.mono),
      fun s v h => does_call rfl (wanted_by (b := true) (want := true) rfl rfl (h.dep 8 rfl)) (x_call2 Try.call12) (eq_k (h.dep 9 rfl) (h.dep 10 rfl) rfl),
      fun s v h => does_val rfl rfl (x_pick (h.dep 8 rfl)) (h.dep 11 rfl),
      fun s v h => does_val rfl rfl (x_assign) (h.dep 12 rfl), trivial⟩
  intro g210 ts v210 hts E210
  simp only [fillL, Nat.reduceAdd, List.setIfInBounds_toArray, List.set_cons_zero, List.set_cons_succ] at hts
  subst hts
  have T211 : Below w.heap.size w v210 := T115.trans E210.below
  have l212 : q8 < v114.heap.size := b121.lt
  have l213 : q14 < v114.heap.size := b122.lt
  have l214 : q66 < v114.heap.size := b123.lt
  have l215 : q73 < v114.heap.size := b124.lt
  have l216 : q81 < v114.heap.size := b125.lt
  have l217 : q153 < v114.heap.size := b187.lt
  have l218 : q163 < v114.heap.size := b195.lt
  have l219 : q174 < v114.heap.size := b203.lt
  have b220 : Bx v210 q8 24 #[.bool na0, .slice A0 n0 c0] := (E210.far q8 b121.lt (by simp)).trans b121
  have b221 : Bx v210 q14 24 #[.bool na1, .slice A1 n1 c1] := (E210.far q14 b122.lt (by simp)).trans b122
  have b222 : Bx v210 q66 t90 #[.bool x92, .slice A93 m94 c95] := (E210.far q66 b123.lt (by simp)).trans b123
  have b223 : Bx v210 q73 t98 #[.bool x100, .slice A101 m102 c103] := (E210.far q73 b124.lt (by simp)).trans b124
  have b224 : Bx v210 q81 t106 #[.bool x108, .slice A109 m110 c111] := (E210.far q81 b125.lt (by simp)).trans b125
  have b225 : Bx v210 q153 t186 #[.bool x188, .slice A189 m190 c191] := (E210.far q153 b187.lt (by simp)).trans b187
  have b226 : Bx v210 q163 t194 #[.bool x196, .slice A197 m198 c199] := (E210.far q163 b195.lt (by simp)).trans b195
  have b227 : Bx v210 q174 t202 #[.bool x204, .slice A205 m206 c207] := (E210.far q174 b203.lt (by simp)).trans b203
  have f228 := f126.mono E210.mono
  have f229 := f127.mono E210.mono
  have f230 := f128.mono E210.mono
  have f231 := f129.mono E210.mono
  have f232 := f130.mono E210.mono
  have f233 := f131.mono E210.mono
  have f234 := f132.mono E210.mono
  have f235 := f133.mono E210.mono
  have f236 := f134.mono E210.mono
  have f237 := f135.mono E210.mono
  have f238 := f136.mono E210.mono
  have f239 := f137.mono E210.mono
  have f240 := f138.mono E210.mono
  have f241 := f139.mono E210.mono
  have f242 := f140.mono E210.mono
  have f243 := f141.mono E210.mono
  have f244 := f142.mono E210.mono
  have f245 := f143.mono E210.mono
  have f246 := f144.mono E210.mono
  have f247 := f145.mono E210.mono
  have f248 := f146.mono E210.mono
  have f249 := f147.mono E210.mono
  have f250 := f148.mono E210.mono
  have f251 := f149.mono E210.mono
  have f252 := f150.mono E210.mono
  have f253 := f151.mono E210.mono
  have f254 := f152.mono E210.mono
  have f255 := f193.mono E210.mono
  have f256 := f201.mono E210.mono
  have f257 := f209.mono E210.mono
  have f258 : Cz v210 (g210 0) (Int.gcd a b : Int) := E210.facts 0 (by decide)
  have f259 : Cz v210 (g210 1) (Int.gcd a b : Int) := E210.facts 1 (by decide)
  have e260 : g210 2 = (.bool true) := E210.facts 2 (by decide)
  have e261 : g210 3 = (.bool true) := E210.facts 3 (by decide)
  have f262 : Cz v210 (g210 4) (bezX a b) := E210.facts 4 (by decide)
  have f263 : Cz v210 (g210 5) (bezX a b) := E210.facts 5 (by decide)
  have e264 : g210 6 = (.bool true) := E210.facts 6 (by decide)
  have e265 : g210 7 = (.bool true) := E210.facts 7 (by decide)
  have e266 : g210 8 = (.bool true) := E210.facts 8 (by decide)
  have f267 : Cz v210 (g210 9) (fl ((Int.gcd a b : Int) - bezX a b * a) b) := E210.facts 9 (by decide)
  have f268 : Cz v210 (g210 10) (fl ((Int.gcd a b : Int) - bezX a b * a) b) := E210.facts 10 (by decide)
  have e269 : g210 11 = (.bool true) := E210.facts 11 (by decide)
  have e270 : g210 12 = (.bool true) := E210.facts 12 (by decide)
  have e271 : g210 13 = (.bool true) := E210.facts 13 (by decide)
  refine then_normal ?_
  refine wp_ret ?_
  exact bodyPost_ret (results_tmp (t := 4) rfl _ _ _) rfl ⟨_, rfl, e271, T211⟩

set_option maxHeartbeats 4000000 in
set_option maxRecDepth 8000 in
theorem zd_z {w : World} {x0 : Value} {a : Int} (h0 : Az 1048576 w x0 a) {y0 : Value} {b : Int} (h1 : Az 1048576 w y0 b) (d1 : (b.sign == 0) = true)  : Calls Try.prog 6 #[x0, y0] w (Ret (.is (.bool true)) w) := by
  have la0 := h0.len
  obtain ⟨na0, A0, n0, c0, M0, rfl, hm0, hz0⟩ := h0.parts
  have la1 := h1.len
  obtain ⟨na1, A1, n1, c1, M1, rfl, hm1, hz1⟩ := h1.parts
  have T0 : Below w.heap.size w w := Below.refl _ _
  go_enter Try.func6, Try.ntmps6
  refine wp_seq ?_
  have HB : w.heap.size ≤ w.heap.size := T0.size
  refine wp_plan_seq [.new 2 (some (24, #[.bool na0, .slice A0 n0 c0])), .new 2 (some (24, #[.bool na1, .slice A1 n1 c1])), .val (.is (.bool false))] [] [] w.heap.size (by kernel_rfl) (by kernel_rfl) trivial HB ?_ ?_
  · exact ⟨fun s v h => does_new rfl rfl (x_box_z (h.same 0 rfl)) (okz _ _ _ _) rfl (.inr rfl),
      fun s v h => does_new rfl rfl (x_box_z (h.same 1 rfl)) (okz _ _ _ _) rfl (.inr rfl),
      fun s v h => does_val rfl rfl (x_assign) rfl, trivial⟩
  intro g272 ts v272 hts E272
  simp only [fillL, Nat.reduceAdd, List.setIfInBounds_toArray, List.set_cons_zero, List.set_cons_succ] at hts
  subst hts
  have T273 : Below w.heap.size w v272 := T0.trans E272.below
  have f274 := h0.mono E272.mono
  have f275 := hm0.mono E272.mono
  have f276 := h1.mono E272.mono
  have f277 := hm1.mono E272.mono
  have e278 : g272 2 = (.bool false) := E272.facts 2 (by decide)
  obtain ⟨q279, p280, l281, o282, b283⟩ : ∃ q, g272 0 = .pointer (some ⟨q, 0, none⟩) ∧ w.heap.size ≤ q ∧ OkB v272 q 2 ∧ Bx v272 q 24 #[.bool na0, .slice A0 n0 c0] := E272.facts 0 (by decide)
  have h284 : w.heap.size ≤ q279 := Nat.le_trans HB l281
  obtain ⟨q285, p286, l287, o288, b289⟩ : ∃ q, g272 1 = .pointer (some ⟨q, 0, none⟩) ∧ w.heap.size ≤ q ∧ OkB v272 q 2 ∧ Bx v272 q 24 #[.bool na1, .slice A1 n1 c1] := E272.facts 1 (by decide)
  have h290 : w.heap.size ≤ q285 := Nat.le_trans HB l287
  have n291 : q279 ≠ q285 := apart_ne (E272.apart 0 1 (by decide) (by decide) (by decide) ⟨_, _, rfl⟩ ⟨_, _, rfl⟩) p280 p286
  refine then_normal ?_
  refine wp_seq ?_
  refine wp_seq ?_
  have HB : w.heap.size ≤ v272.heap.size := T273.size
  refine wp_plan_any [.val (.az 1048576 a), .val (.az 1048576 a), .val (.az 1048576 b), .val (.az 1048576 b), .val (.cz (Int.gcd a b : Int)), .val (.az 1048576 a), .val (.az 1048576 b), .val (.cz (Int.gcd a b : Int)), .val (.is (.bool true)), .val (.is (.bool false))] [] [] w.heap.size (by kernel_rfl) (by kernel_rfl) (by kernel_rfl) trivial HB ?_ ?_
  · exact ⟨fun s v h => does_val rfl rfl (x_load_z ((h.same 2 rfl).trans p280) ((h.far q279 b283.lt (by simp)).trans b283)) (f274.mono ((Mono.drew _).trans h.mono)),
      fun s v h => does_call rfl rfl (x_call1 Try.call18) (own_k (h.dep 0 rfl) (by omega)),
      fun s v h => does_val rfl rfl (x_load_z ((h.same 3 rfl).trans p286) ((h.far q285 b289.lt (by simp)).trans b289)) (f276.mono ((Mono.drew _).trans h.mono)),
      fun s v h => does_call rfl rfl (x_call1 Try.call18) (own_k (h.dep 2 rfl) (by omega)),
      fun s v h => does_call rfl rfl (x_call2 Try.call31) (zgcd_k (h.dep 1 rfl) (h.dep 3 rfl) (by omega) (by omega)),
      fun s v h => does_val rfl rfl (x_load_z ((h.same 2 rfl).trans p280) ((h.far q279 b283.lt (by simp)).trans b283)) (f274.mono ((Mono.drew _).trans h.mono)),
      fun s v h => does_val rfl rfl (x_load_z ((h.same 3 rfl).trans p286) ((h.far q285 b289.lt (by simp)).trans b289)) (f276.mono ((Mono.drew _).trans h.mono)),
      fun s v h => does_call rfl rfl (x_call2 Try.call32) (r2gcd_k (h.dep 5 rfl) (h.dep 6 rfl) (by omega) (by omega)),
      fun s v h => does_call rfl rfl (x_call2 Try.call12) (eq_k (h.dep 4 rfl) (h.dep 7 rfl) rfl),
      fun s v h => does_val rfl rfl (x_not (h.dep 8 rfl)) rfl, trivial⟩
  intro g292 ts v292 hts E292
  simp only [fillL, Nat.reduceAdd, List.setIfInBounds_toArray, List.set_cons_zero, List.set_cons_succ] at hts
  subst hts
  have T293 : Below w.heap.size w v292 := (below_toDrew T273).trans E292.below
  have l294 : q279 < v272.heap.size := b283.lt
  have l295 : q285 < v272.heap.size := b289.lt
  have b296 : Bx v292 q279 24 #[.bool na0, .slice A0 n0 c0] := (E292.far q279 b283.lt (by simp)).trans b283
  have b297 : Bx v292 q285 24 #[.bool na1, .slice A1 n1 c1] := (E292.far q285 b289.lt (by simp)).trans b289
  have f298 := f274.mono ((Mono.drew _).trans E292.mono)
  have f299 := f275.mono ((Mono.drew _).trans E292.mono)
  have f300 := f276.mono ((Mono.drew _).trans E292.mono)
  have f301 := f277.mono ((Mono.drew _).trans E292.mono)
  have f302 : Az 1048576 v292 (g292 0) a := E292.facts 0 (by decide)
  have f303 : Az 1048576 v292 (g292 1) a := E292.facts 1 (by decide)
  have f304 : Az 1048576 v292 (g292 2) b := E292.facts 2 (by decide)
  have f305 : Az 1048576 v292 (g292 3) b := E292.facts 3 (by decide)
  have f306 : Cz v292 (g292 4) (Int.gcd a b : Int) := E292.facts 4 (by decide)
  have f307 : Az 1048576 v292 (g292 5) a := E292.facts 5 (by decide)
  have f308 : Az 1048576 v292 (g292 6) b := E292.facts 6 (by decide)
  have f309 : Cz v292 (g292 7) (Int.gcd a b : Int) := E292.facts 7 (by decide)
  have e310 : g292 8 = (.bool true) := E292.facts 8 (by decide)
  have e311 : g292 9 = (.bool false) := E292.facts 9 (by decide)
  refine then_normal ?_
  refine wp_cond_false e311 ?_
  refine wp_skip ?_
  refine then_normal ?_
  refine wp_seq ?_
  have HB : w.heap.size ≤ v292.heap.size := T293.size
  refine wp_plan_any [.val (.az 1048576 a), .val (.az 1048576 a), .val (.az 1048576 b), .val (.az 1048576 b), .val (.tup3 (.cz (a.natAbs : Int)) (.cz a.sign) (.cz 0)), .val (.tup3 (.cz (a.natAbs : Int)) (.cz a.sign) (.cz 0)), .val (.cz (a.natAbs : Int)), .val (.cz a.sign), .val (.cz 0), .new 2 none, .new 2 none, .new 2 none, .put 5 27, .put 6 28, .put 7 29] [] [] w.heap.size (by kernel_rfl) (by kernel_rfl) (by kernel_rfl) trivial HB ?_ ?_
  · exact ⟨fun s v h => does_val rfl rfl (x_load_z ((h.same 2 rfl).trans p280) ((h.far q279 b296.lt (by simp)).trans b296)) (f298.mono ((Mono.drew _).trans h.mono)),
      fun s v h => does_call rfl rfl (x_call1 Try.call18) (own_k (h.dep 0 rfl) (by omega)),
      fun s v h => does_val rfl rfl (x_load_z ((h.same 3 rfl).trans p286) ((h.far q285 b297.lt (by simp)).trans b297)) (f300.mono ((Mono.drew _).trans h.mono)),
      fun s v h => does_call rfl rfl (x_call1 Try.call18) (own_k (h.dep 2 rfl) (by omega)),
      fun s v h => does_call rfl rfl (x_call2 Try.call33) (zbezout_z (h.dep 1 rfl) (h.dep 3 rfl) d1),
      fun s v h => does_val rfl rfl (x_move) (h.dep 4 rfl),
      fun s v h => by obtain ⟨r0, r1, r2, e, f0, f1, f2⟩ := tup3_at (h.dep 5 rfl); exact does_val rfl rfl (x_ext e rfl) f0,
      fun s v h => by obtain ⟨r0, r1, r2, e, f0, f1, f2⟩ := tup3_at (h.dep 5 rfl); exact does_val rfl rfl (x_ext e rfl) f1,
      fun s v h => by obtain ⟨r0, r1, r2, e, f0, f1, f2⟩ := tup3_at (h.dep 5 rfl); exact does_val rfl rfl (x_ext e rfl) f2,
      fun s v h => does_new rfl rfl x_alloc_z (okz _ _ _ _) rfl (.inl rfl),
      fun s v h => does_new rfl rfl x_alloc_z (okz _ _ _ _) rfl (.inl rfl),
      fun s v h => does_new rfl rfl x_alloc_z (okz _ _ _ _) rfl (.inl rfl),
      fun s v h => by obtain ⟨q, e1, e2, e3⟩ := new_at (h.dep 9 rfl); exact does_put_z rfl rfl e1 (h.dep 6 rfl).shape e3 (Nat.le_trans HB e2),
      fun s v h => by obtain ⟨q, e1, e2, e3⟩ := new_at (h.dep 10 rfl); exact does_put_z rfl rfl e1 (h.dep 7 rfl).shape e3 (Nat.le_trans HB e2),
      fun s v h => by obtain ⟨q, e1, e2, e3⟩ := new_at (h.dep 11 rfl); exact does_put_z rfl rfl e1 (h.dep 8 rfl).shape e3 (Nat.le_trans HB e2), trivial⟩
  intro g312 ts v312 hts E312
  simp only [fillL, Nat.reduceAdd, List.setIfInBounds_toArray, List.set_cons_zero, List.set_cons_succ] at hts
  subst hts
  have T313 : Below w.heap.size w v312 := (below_toDrew T293).trans E312.below
  have l314 : q279 < v292.heap.size := b296.lt
  have l315 : q285 < v292.heap.size := b297.lt
  have b316 : Bx v312 q279 24 #[.bool na0, .slice A0 n0 c0] := (E312.far q279 b296.lt (by simp)).trans b296
  have b317 : Bx v312 q285 24 #[.bool na1, .slice A1 n1 c1] := (E312.far q285 b297.lt (by simp)).trans b297
  have f318 := f298.mono ((Mono.drew _).trans E312.mono)
  have f319 := f299.mono ((Mono.drew _).trans E312.mono)
  have f320 := f300.mono ((Mono.drew _).trans E312.mono)
  have f321 := f301.mono ((Mono.drew _).trans E312.mono)
  have f322 := f302.mono ((Mono.drew _).trans E312.mono)
  have f323 := f303.mono ((Mono.drew _).trans E312.mono)
  have f324 := f304.mono ((Mono.drew _).trans E312.mono)
  have f325 := f305.mono ((Mono.drew _).trans E312.mono)
  have f326 := f306.mono ((Mono.drew _).trans E312.mono)
  have f327 := f307.mono ((Mono.drew _).trans E312.mono)
  have f328 := f308.mono ((Mono.drew _).trans E312.mono)
  have f329 := f309.mono ((Mono.drew _).trans E312.mono)
  have f330 : Az 1048576 v312 (g312 0) a := E312.facts 0 (by decide)
  have f331 : Az 1048576 v312 (g312 1) a := E312.facts 1 (by decide)
  have f332 : Az 1048576 v312 (g312 2) b := E312.facts 2 (by decide)
  have f333 : Az 1048576 v312 (g312 3) b := E312.facts 3 (by decide)
  have f334 : Cz v312 (g312 6) (a.natAbs : Int) := E312.facts 6 (by decide)
  have f335 : Cz v312 (g312 7) a.sign := E312.facts 7 (by decide)
  have f336 : Cz v312 (g312 8) 0 := E312.facts 8 (by decide)
  obtain ⟨q337, p338, l339, o340⟩ : ∃ q, g312 9 = .pointer (some ⟨q, 0, none⟩) ∧ v292.heap.size ≤ q ∧ OkB v312 q 2 := E312.facts 9 (by decide)
  have h341 : w.heap.size ≤ q337 := Nat.le_trans HB l339
  have n342 : q279 ≠ q337 := by omega
  have n343 : q285 ≠ q337 := by omega
  obtain ⟨q344, p345, l346, o347⟩ : ∃ q, g312 10 = .pointer (some ⟨q, 0, none⟩) ∧ v292.heap.size ≤ q ∧ OkB v312 q 2 := E312.facts 10 (by decide)
  have h348 : w.heap.size ≤ q344 := Nat.le_trans HB l346
  have n349 : q279 ≠ q344 := by omega
  have n350 : q285 ≠ q344 := by omega
  have n351 : q337 ≠ q344 := apart_ne (E312.apart 9 10 (by decide) (by decide) (by decide) ⟨_, _, rfl⟩ ⟨_, _, rfl⟩) p338 p345
  obtain ⟨q352, p353, l354, o355⟩ : ∃ q, g312 11 = .pointer (some ⟨q, 0, none⟩) ∧ v292.heap.size ≤ q ∧ OkB v312 q 2 := E312.facts 11 (by decide)
  have h356 : w.heap.size ≤ q352 := Nat.le_trans HB l354
  have n357 : q279 ≠ q352 := by omega
  have n358 : q285 ≠ q352 := by omega
  have n359 : q337 ≠ q352 := apart_ne (E312.apart 9 11 (by decide) (by decide) (by decide) ⟨_, _, rfl⟩ ⟨_, _, rfl⟩) p338 p353
  have n360 : q344 ≠ q352 := apart_ne (E312.apart 10 11 (by decide) (by decide) (by decide) ⟨_, _, rfl⟩ ⟨_, _, rfl⟩) p345 p353
  obtain ⟨t361, x363, A364, m365, c366, e367, b362⟩ := put_info (E312.facts 12 (by decide)) p338 f334.shape
  have f368 : Cz v312 (.agg #[.bool x363, .slice A364 m365 c366]) (a.natAbs : Int) := f334.at e367.symm
  obtain ⟨t369, x371, A372, m373, c374, e375, b370⟩ := put_info (E312.facts 13 (by decide)) p345 f335.shape
  have f376 : Cz v312 (.agg #[.bool x371, .slice A372 m373 c374]) a.sign := f335.at e375.symm
  obtain ⟨t377, x379, A380, m381, c382, e383, b378⟩ := put_info (E312.facts 14 (by decide)) p353 f336.shape
  have f384 : Cz v312 (.agg #[.bool x379, .slice A380 m381 c382]) 0 := f336.at e383.symm
  refine then_normal ?_
  refine wp_seq ?_
  have HB : w.heap.size ≤ v312.heap.size := T313.size
  refine wp_plan_seq [.val (.az 1048576 a), .val (.az 1048576 b), .val (.tup3 (.cz (a.natAbs : Int)) (.cz a.sign) (.cz 0)), .val (.tup3 (.cz (a.natAbs : Int)) (.cz a.sign) (.cz 0)), .val (.cz (a.natAbs : Int)), .val (.cz a.sign), .val (.cz 0), .new 2 none, .new 2 none, .new 2 none, .put 8 34, .put 9 35, .put 10 36] [] [] w.heap.size (by kernel_rfl) (by kernel_rfl) trivial HB ?_ ?_
  · exact ⟨fun s v h => does_val rfl rfl (x_load_z ((h.same 2 rfl).trans p280) ((h.far q279 b316.lt (by simp)).trans b316)) (f318.mono h.mono),
      fun s v h => does_val rfl rfl (x_load_z ((h.same 3 rfl).trans p286) ((h.far q285 b317.lt (by simp)).trans b317)) (f320.mono h.mono),
      fun s v h => does_call rfl rfl (x_call2 Try.call34) (r2bezout_z (h.dep 0 rfl) (h.dep 1 rfl) (by omega) d1),
      fun s v h => does_val rfl rfl (x_move) (h.dep 2 rfl),
      fun s v h => by obtain ⟨r0, r1, r2, e, f0, f1, f2⟩ := tup3_at (h.dep 3 rfl); exact does_val rfl rfl (x_ext e rfl) f0,
      fun s v h => by obtain ⟨r0, r1, r2, e, f0, f1, f2⟩ := tup3_at (h.dep 3 rfl); exact does_val rfl rfl (x_ext e rfl) f1,
      fun s v h => by obtain ⟨r0, r1, r2, e, f0, f1, f2⟩ := tup3_at (h.dep 3 rfl); exact does_val rfl rfl (x_ext e rfl) f2,
      fun s v h => does_new rfl rfl x_alloc_z (okz _ _ _ _) rfl (.inl rfl),
      fun s v h => does_new rfl rfl x_alloc_z (okz _ _ _ _) rfl (.inl rfl),
      fun s v h => does_new rfl rfl x_alloc_z (okz _ _ _ _) rfl (.inl rfl),
      fun s v h => by obtain ⟨q, e1, e2, e3⟩ := new_at (h.dep 7 rfl); exact does_put_z rfl rfl e1 (h.dep 4 rfl).shape e3 (Nat.le_trans HB e2),
      fun s v h => by obtain ⟨q, e1, e2, e3⟩ := new_at (h.dep 8 rfl); exact does_put_z rfl rfl e1 (h.dep 5 rfl).shape e3 (Nat.le_trans HB e2),
      fun s v h => by obtain ⟨q, e1, e2, e3⟩ := new_at (h.dep 9 rfl); exact does_put_z rfl rfl e1 (h.dep 6 rfl).shape e3 (Nat.le_trans HB e2), trivial⟩
  intro g385 ts v385 hts E385
  simp only [fillL, Nat.reduceAdd, List.setIfInBounds_toArray, List.set_cons_zero, List.set_cons_succ] at hts
  subst hts
  have T386 : Below w.heap.size w v385 := T313.trans E385.below
  have l387 : q279 < v312.heap.size := b316.lt
  have l388 : q285 < v312.heap.size := b317.lt
  have l389 : q337 < v312.heap.size := b362.lt
  have l390 : q344 < v312.heap.size := b370.lt
  have l391 : q352 < v312.heap.size := b378.lt
  have b392 : Bx v385 q279 24 #[.bool na0, .slice A0 n0 c0] := (E385.far q279 b316.lt (by simp)).trans b316
  have b393 : Bx v385 q285 24 #[.bool na1, .slice A1 n1 c1] := (E385.far q285 b317.lt (by simp)).trans b317
  have b394 : Bx v385 q337 t361 #[.bool x363, .slice A364 m365 c366] := (E385.far q337 b362.lt (by simp)).trans b362
  have b395 : Bx v385 q344 t369 #[.bool x371, .slice A372 m373 c374] := (E385.far q344 b370.lt (by simp)).trans b370
  have b396 : Bx v385 q352 t377 #[.bool x379, .slice A380 m381 c382] := (E385.far q352 b378.lt (by simp)).trans b378
  have f397 := f318.mono E385.mono
  have f398 := f319.mono E385.mono
  have f399 := f320.mono E385.mono
  have f400 := f321.mono E385.mono
  have f401 := f322.mono E385.mono
  have f402 := f323.mono E385.mono
  have f403 := f324.mono E385.mono
  have f404 := f325.mono E385.mono
  have f405 := f326.mono E385.mono
  have f406 := f327.mono E385.mono
  have f407 := f328.mono E385.mono
  have f408 := f329.mono E385.mono
  have f409 := f330.mono E385.mono
  have f410 := f331.mono E385.mono
  have f411 := f332.mono E385.mono
  have f412 := f333.mono E385.mono
  have f413 := f334.mono E385.mono
  have f414 := f335.mono E385.mono
  have f415 := f336.mono E385.mono
  have f416 := f368.mono E385.mono
  have f417 := f376.mono E385.mono
  have f418 := f384.mono E385.mono
  have f419 : Az 1048576 v385 (g385 0) a := E385.facts 0 (by decide)
  have f420 : Az 1048576 v385 (g385 1) b := E385.facts 1 (by decide)
  have f421 : Cz v385 (g385 4) (a.natAbs : Int) := E385.facts 4 (by decide)
  have f422 : Cz v385 (g385 5) a.sign := E385.facts 5 (by decide)
  have f423 : Cz v385 (g385 6) 0 := E385.facts 6 (by decide)
  obtain ⟨q424, p425, l426, o427⟩ : ∃ q, g385 7 = .pointer (some ⟨q, 0, none⟩) ∧ v312.heap.size ≤ q ∧ OkB v385 q 2 := E385.facts 7 (by decide)
  have h428 : w.heap.size ≤ q424 := Nat.le_trans HB l426
  have n429 : q279 ≠ q424 := by omega
  have n430 : q285 ≠ q424 := by omega
  have n431 : q337 ≠ q424 := by omega
  have n432 : q344 ≠ q424 := by omega
  have n433 : q352 ≠ q424 := by omega
  obtain ⟨q434, p435, l436, o437⟩ : ∃ q, g385 8 = .pointer (some ⟨q, 0, none⟩) ∧ v312.heap.size ≤ q ∧ OkB v385 q 2 := E385.facts 8 (by decide)
  have h438 : w.heap.size ≤ q434 := Nat.le_trans HB l436
  have n439 : q279 ≠ q434 := by omega
  have n440 : q285 ≠ q434 := by omega
  have n441 : q337 ≠ q434 := by omega
  have n442 : q344 ≠ q434 := by omega
  have n443 : q352 ≠ q434 := by omega
  have n444 : q424 ≠ q434 := apart_ne (E385.apart 7 8 (by decide) (by decide) (by decide) ⟨_, _, rfl⟩ ⟨_, _, rfl⟩) p425 p435
  obtain ⟨q445, p446, l447, o448⟩ : ∃ q, g385 9 = .pointer (some ⟨q, 0, none⟩) ∧ v312.heap.size ≤ q ∧ OkB v385 q 2 := E385.facts 9 (by decide)
  have h449 : w.heap.size ≤ q445 := Nat.le_trans HB l447
  have n450 : q279 ≠ q445 := by omega
  have n451 : q285 ≠ q445 := by omega
  have n452 : q337 ≠ q445 := by omega
  have n453 : q344 ≠ q445 := by omega
  have n454 : q352 ≠ q445 := by omega
  have n455 : q424 ≠ q445 := apart_ne (E385.apart 7 9 (by decide) (by decide) (by decide) ⟨_, _, rfl⟩ ⟨_, _, rfl⟩) p425 p446
  have n456 : q434 ≠ q445 := apart_ne (E385.apart 8 9 (by decide) (by decide) (by decide) ⟨_, _, rfl⟩ ⟨_, _, rfl⟩) p435 p446
  obtain ⟨t457, x459, A460, m461, c462, e463, b458⟩ := put_info (E385.facts 10 (by decide)) p425 f421.shape
  have f464 : Cz v385 (.agg #[.bool x459, .slice A460 m461 c462]) (a.natAbs : Int) := f421.at e463.symm
  obtain ⟨t465, x467, A468, m469, c470, e471, b466⟩ := put_info (E385.facts 11 (by decide)) p435 f422.shape
  have f472 : Cz v385 (.agg #[.bool x467, .slice A468 m469 c470]) a.sign := f422.at e471.symm
  obtain ⟨t473, x475, A476, m477, c478, e479, b474⟩ := put_info (E385.facts 12 (by decide)) p446 f423.shape
  have f480 : Cz v385 (.agg #[.bool x475, .slice A476 m477 c478]) 0 := f423.at e479.symm
  refine then_normal ?_
  refine wp_seq ?_
  have HB : w.heap.size ≤ v385.heap.size := T386.size
  refine wp_plan_seq [.val (.cz (a.natAbs : Int)), .val (.cz (a.natAbs : Int)), .val (.is (.bool true)), .val (.is (.bool true)), .val (.cz a.sign), .val (.cz a.sign), .val (.is (.bool true)), .val (.is (.bool true)), .val (.is (.bool true)), .val (.cz 0), .val (.cz 0), .val (.is (.bool true)), .val (.is (.bool true)), .val (.is (.bool true))] [] [] w.heap.size (by kernel_rfl) (by kernel_rfl) trivial HB ?_ ?_
  · exact ⟨fun s v h => does_val rfl rfl (x_load_z ((h.same 5 rfl).trans p338) ((h.far q337 b394.lt (by simp)).trans b394)) (f416.mono h.mono),
      fun s v h => does_val rfl rfl (x_load_z ((h.same 8 rfl).trans p425) ((h.far q424 b458.lt (by simp)).trans b458)) (f464.mono h.mono),
      fun s v h => does_call rfl rfl (x_call2 Try.call12) (eq_k (h.dep 0 rfl) (h.dep 1 rfl) rfl),
      fun s v h => does_val rfl rfl (x_move) (h.dep 2 rfl),
      fun s v h => does_val rfl (wanted_by (b := true) (want := true) rfl rfl (h.dep 3 rfl)) (x_load_z ((h.same 6 rfl).trans p345) ((h.far q344 b395.lt (by simp)).trans b395)) (f417.mono h.mono),
      fun s v h => does_val rfl (wanted_by (b := true) (want := true) rfl rfl (h.dep 3 rfl)) (x_load_z ((h.same 9 rfl).trans p435) ((h.far q434 b466.lt (by simp)).trans b466)) (f472.mono h.mono),
      fun s v h => does_call rfl (wanted_by (b := true) (want := true) rfl rfl (h.dep 3 rfl)) (x_call2 Try.call12) (eq_k (h.dep 4 rfl) (h.dep 5 rfl) rfl),
      fun s v h => does_val rfl rfl (x_pick (h.dep 3 rfl)) (h.dep 6 rfl),
      fun s v h => does_val rfl rfl (x_move) (h.dep 7 rfl),
      fun s v h => does_val rfl (wanted_by (b := true) (want := true) rfl rfl (h.dep 8 rfl)) (x_load_z ((h.same 7 rfl).trans p353) ((h.far q352 b396.lt (by simp)).trans b396)) (f418.mono h.mono),
      fun s v h => does_val rfl (wanted_by (b := true) (want := true) rfl rfl (h.dep 8 rfl)) (x_load_z ((h.same 10 rfl).trans p446) ((h.far q445 b474.lt (by simp)).trans b474)) (f480.mono h.mono),
      fun s v h => does_call rfl (wanted_by (b := true) (want := true) rfl rfl (h.dep 8 rfl)) (x_call2 Try.call12) (eq_k (h.dep 9 rfl) (h.dep 10 rfl) rfl),
      fun s v h => does_val rfl rfl (x_pick (h.dep 8 rfl)) (h.dep 11 rfl),
      fun s v h => does_val rfl rfl (x_assign) (h.dep 12 rfl), trivial⟩
  intro g481 ts v481 hts E481
  simp only [fillL, Nat.reduceAdd, List.setIfInBounds_toArray, List.set_cons_zero, List.set_cons_succ] at hts
  subst hts
  have T482 : Below w.heap.size w v481 := T386.trans E481.below
  have l483 : q279 < v385.heap.size := b392.lt
  have l484 : q285 < v385.heap.size := b393.lt
  have l485 : q337 < v385.heap.size := b394.lt
  have l486 : q344 < v385.heap.size := b395.lt
  have l487 : q352 < v385.heap.size := b396.lt
  have l488 : q424 < v385.heap.size := b458.lt
  have l489 : q434 < v385.heap.size := b466.lt
  have l490 : q445 < v385.heap.size := b474.lt
  have b491 : Bx v481 q279 24 #[.bool na0, .slice A0 n0 c0] := (E481.far q279 b392.lt (by simp)).trans b392
  have b492 : Bx v481 q285 24 #[.bool na1, .slice A1 n1 c1] := (E481.far q285 b393.lt (by simp)).trans b393
  have b493 : Bx v481 q337 t361 #[.bool x363, .slice A364 m365 c366] := (E481.far q337 b394.lt (by simp)).trans b394
  have b494 : Bx v481 q344 t369 #[.bool x371, .slice A372 m373 c374] := (E481.far q344 b395.lt (by simp)).trans b395
  have b495 : Bx v481 q352 t377 #[.bool x379, .slice A380 m381 c382] := (E481.far q352 b396.lt (by simp)).trans b396
  have b496 : Bx v481 q424 t457 #[.bool x459, .slice A460 m461 c462] := (E481.far q424 b458.lt (by simp)).trans b458
  have b497 : Bx v481 q434 t465 #[.bool x467, .slice A468 m469 c470] := (E481.far q434 b466.lt (by simp)).trans b466
  have b498 : Bx v481 q445 t473 #[.bool x475, .slice A476 m477 c478] := (E481.far q445 b474.lt (by simp)).trans b474
  have f499 := f397.mono E481.mono
  have f500 := f398.mono E481.mono
  have f501 := f399.mono E481.mono
  have f502 := f400.mono E481.mono
  have f503 := f401.mono E481.mono
  have f504 := f402.mono E481.mono
  have f505 := f403.mono E481.mono
  have f506 := f404.mono E481.mono
  have f507 := f405.mono E481.mono
  have f508 := f406.mono E481.mono
  have f509 := f407.mono E481.mono
  have f510 := f408.mono E481.mono
  have f511 := f409.mono E481.mono
  have f512 := f410.mono E481.mono
  have f513 := f411.mono E481.mono
  have f514 := f412.mono E481.mono
  have f515 := f413.mono E481.mono
  have f516 := f414.mono E481.mono
  have f517 := f415.mono E481.mono
  have f518 := f416.mono E481.mono
  have f519 := f417.mono E481.mono
  have f520 := f418.mono E481.mono
  have f521 := f419.mono E481.mono
  have f522 := f420.mono E481.mono
  have f523 := f421.mono E481.mono
  have f524 := f422.mono E481.mono
  have f525 := f423.mono E481.mono
  have f526 := f464.mono E481.mono
  have f527 := f472.mono E481.mono
  have f528 := f480.mono E481.mono
  have f529 : Cz v481 (g481 0) (a.natAbs : Int) := E481.facts 0 (by decide)
  have f530 : Cz v481 (g481 1) (a.natAbs : Int) := E481.facts 1 (by decide)
  have e531 : g481 2 = (.bool true) := E481.facts 2 (by decide)
  have e532 : g481 3 = (.bool true) := E481.facts 3 (by decide)
  have f533 : Cz v481 (g481 4) a.sign := E481.facts 4 (by decide)
  have f534 : Cz v481 (g481 5) a.sign := E481.facts 5 (by decide)
  have e535 : g481 6 = (.bool true) := E481.facts 6 (by decide)
  have e536 : g481 7 = (.bool true) := E481.facts 7 (by decide)
  have e537 : g481 8 = (.bool true) := E481.facts 8 (by decide)
  have f538 : Cz v481 (g481 9) 0 := E481.facts 9 (by decide)
  have f539 : Cz v481 (g481 10) 0 := E481.facts 10 (by decide)
  have e540 : g481 11 = (.bool true) := E481.facts 11 (by decide)
  have e541 : g481 12 = (.bool true) := E481.facts 12 (by decide)
  have e542 : g481 13 = (.bool true) := E481.facts 13 (by decide)
  refine then_normal ?_
  refine wp_ret ?_
  exact bodyPost_ret (results_tmp (t := 4) rfl _ _ _) rfl ⟨_, rfl, e542, T482⟩

theorem zintDivisors_law (w : World) (x : Value) (z : Int) (y : Value) (u : Int) (h0 : Az 1048576 w x z) (h1 : Az 1048576 w y u) :
    Calls Try.prog 6 #[x, y] w fun e w' => e = .returned (.bool true) ∧ Below w.heap.size w w' := by
  have fin : Calls Try.prog 6 #[x, y] w (Ret (.is (.bool true)) w) := by
    by_cases hu : u = 0
    · exact zd_z h0 h1 (sign_eq_zero.2 hu)
    · have d0 : (u.sign == 0) = false := by
        cases h : (u.sign == 0) with
        | false => rfl
        | true => exact absurd (sign_eq_zero.1 h) hu
      exact zd_n h0 h1 hu d0
  refine fin.mono fun e w' h => ?_
  obtain ⟨r, e, hr, hB⟩ := h
  have hr : r = .bool true := hr
  exact ⟨by rw [e, hr], hB⟩
end Go.Proofs.Ytkidgeeedigkhaa
