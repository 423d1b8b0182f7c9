/- Bezout of both. -/
import Derived.Test.YtkidgeeedigkhaaY3
import Derived.Test.YtkidgeeedigkhaaNumB
import Derived.Test.YtkidgeeedigkhaaLoop
namespace Go.Proofs.Ytkidgeeedigkhaa
open Go.RowKit

set_option maxHeartbeats 4000000 in
set_option maxRecDepth 8000 in
theorem zbezout_n {w : World} {x0 : Value} {a : Int} {N : Nat} (h0 : Az N w x0 a) {y0 : Value} {b : Int} (h1 : Az N w y0 b) (hN : N ≤ 100000000) (hu : b ≠ 0) (d1 : (b.sign == 0) = false)  : Calls Try.prog 33 #[x0, y0] w (Ret (.tup3 (.cz (Int.gcd a b : Int)) (.cz (bezX a b)) (.cz (fl ((Int.gcd a b : Int) - bezX a b * a) b))) w) := by
  have la0 := h0.len
  obtain ⟨na0, A0, n0, c0, M0, rfl, hm0, hz0⟩ := h0.parts
  have la1 := h1.len
  obtain ⟨na1, A1, n1, c1, M1, rfl, hm1, hz1⟩ := h1.parts
  have T0 : Below w.heap.size w w := Below.refl _ _
  go_enter Try.func33, Try.ntmps33
  refine wp_seq ?_
  have HB : w.heap.size ≤ w.heap.size := T0.size
  refine wp_plan_seq [.new 2 (some (24, #[.bool na0, .slice A0 n0 c0])), .new 2 (some (24, #[.bool na1, .slice A1 n1 c1])), .new 2 (some (24, #[.bool false, .slice none 0 0])), .new 2 (some (24, #[.bool false, .slice none 0 0])), .new 2 (some (24, #[.bool false, .slice none 0 0]))] [] [] w.heap.size (by kernel_rfl) (by kernel_rfl) trivial HB ?_ ?_
  · exact ⟨fun s v h => does_new rfl rfl (x_box_z (h.same 0 rfl)) (okz _ _ _ _) rfl (.inr rfl),
      fun s v h => does_new rfl rfl (x_box_z (h.same 1 rfl)) (okz _ _ _ _) rfl (.inr rfl),
      fun s v h => does_new rfl rfl x_alloc_z (okz _ _ _ _) rfl (.inr rfl),
      fun s v h => does_new rfl rfl x_alloc_z (okz _ _ _ _) rfl (.inr rfl),
      fun s v h => does_new rfl rfl x_alloc_z (okz _ _ _ _) rfl (.inr rfl), trivial⟩
  intro g1 ts v1 hts E1
  simp only [fillL, Nat.reduceAdd, List.setIfInBounds_toArray, List.set_cons_zero, List.set_cons_succ] at hts
  subst hts
  have T2 : Below w.heap.size w v1 := T0.trans E1.below
  have f3 := h0.mono E1.mono
  have f4 := hm0.mono E1.mono
  have f5 := h1.mono E1.mono
  have f6 := hm1.mono E1.mono
  obtain ⟨q7, p8, l9, o10, b11⟩ : ∃ q, g1 0 = .pointer (some ⟨q, 0, none⟩) ∧ w.heap.size ≤ q ∧ OkB v1 q 2 ∧ Bx v1 q 24 #[.bool na0, .slice A0 n0 c0] := E1.facts 0 (by decide)
  have h12 : w.heap.size ≤ q7 := Nat.le_trans HB l9
  obtain ⟨q13, p14, l15, o16, b17⟩ : ∃ q, g1 1 = .pointer (some ⟨q, 0, none⟩) ∧ w.heap.size ≤ q ∧ OkB v1 q 2 ∧ Bx v1 q 24 #[.bool na1, .slice A1 n1 c1] := E1.facts 1 (by decide)
  have h18 : w.heap.size ≤ q13 := Nat.le_trans HB l15
  have n19 : q7 ≠ q13 := apart_ne (E1.apart 0 1 (by decide) (by decide) (by decide) ⟨_, _, rfl⟩ ⟨_, _, rfl⟩) p8 p14
  obtain ⟨q20, p21, l22, o23, b24⟩ : ∃ q, g1 2 = .pointer (some ⟨q, 0, none⟩) ∧ w.heap.size ≤ q ∧ OkB v1 q 2 ∧ Bx v1 q 24 #[.bool false, .slice none 0 0] := E1.facts 2 (by decide)
  have f25 : Cz v1 (.agg #[.bool false, .slice none 0 0]) 0 := cz_zero _
  have h26 : w.heap.size ≤ q20 := Nat.le_trans HB l22
  have n27 : q7 ≠ q20 := apart_ne (E1.apart 0 2 (by decide) (by decide) (by decide) ⟨_, _, rfl⟩ ⟨_, _, rfl⟩) p8 p21
  have n28 : q13 ≠ q20 := apart_ne (E1.apart 1 2 (by decide) (by decide) (by decide) ⟨_, _, rfl⟩ ⟨_, _, rfl⟩) p14 p21
  obtain ⟨q29, p30, l31, o32, b33⟩ : ∃ q, g1 3 = .pointer (some ⟨q, 0, none⟩) ∧ w.heap.size ≤ q ∧ OkB v1 q 2 ∧ Bx v1 q 24 #[.bool false, .slice none 0 0] := E1.facts 3 (by decide)
  have f34 : Cz v1 (.agg #[.bool false, .slice none 0 0]) 0 := cz_zero _
  have h35 : w.heap.size ≤ q29 := Nat.le_trans HB l31
  have n36 : q7 ≠ q29 := apart_ne (E1.apart 0 3 (by decide) (by decide) (by decide) ⟨_, _, rfl⟩ ⟨_, _, rfl⟩) p8 p30
  have n37 : q13 ≠ q29 := apart_ne (E1.apart 1 3 (by decide) (by decide) (by decide) ⟨_, _, rfl⟩ ⟨_, _, rfl⟩) p14 p30
  have n38 : q20 ≠ q29 := apart_ne (E1.apart 2 3 (by decide) (by decide) (by decide) ⟨_, _, rfl⟩ ⟨_, _, rfl⟩) p21 p30
  obtain ⟨q39, p40, l41, o42, b43⟩ : ∃ q, g1 4 = .pointer (some ⟨q, 0, none⟩) ∧ w.heap.size ≤ q ∧ OkB v1 q 2 ∧ Bx v1 q 24 #[.bool false, .slice none 0 0] := E1.facts 4 (by decide)
  have f44 : Cz v1 (.agg #[.bool false, .slice none 0 0]) 0 := cz_zero _
  have h45 : w.heap.size ≤ q39 := Nat.le_trans HB l41
  have n46 : q7 ≠ q39 := apart_ne (E1.apart 0 4 (by decide) (by decide) (by decide) ⟨_, _, rfl⟩ ⟨_, _, rfl⟩) p8 p40
  have n47 : q13 ≠ q39 := apart_ne (E1.apart 1 4 (by decide) (by decide) (by decide) ⟨_, _, rfl⟩ ⟨_, _, rfl⟩) p14 p40
  have n48 : q20 ≠ q39 := apart_ne (E1.apart 2 4 (by decide) (by decide) (by decide) ⟨_, _, rfl⟩ ⟨_, _, rfl⟩) p21 p40
  have n49 : q29 ≠ q39 := apart_ne (E1.apart 3 4 (by decide) (by decide) (by decide) ⟨_, _, rfl⟩ ⟨_, _, rfl⟩) p30 p40
  refine then_normal ?_
  refine wp_seq ?_
  refine wp_seq ?_
  have HB : w.heap.size ≤ v1.heap.size := T2.size
  refine wp_plan_seq [.val (.az N b), .val (.is (.int .i64 b.sign)), .val (.is (.bool false))] [] [] w.heap.size (by kernel_rfl) (by kernel_rfl) trivial HB ?_ ?_
  · exact ⟨fun s v h => does_val rfl rfl (x_load_z ((h.same 3 rfl).trans p14) ((h.far q13 b17.lt (by simp)).trans b17)) (f5.mono h.mono),
      fun s v h => does_call rfl rfl (x_call1 Try.call39) (sign_k (h.dep 0 rfl)),
      fun s v h => does_val rfl rfl (x_eql_int (h.dep 1 rfl) rfl) (congrArg Value.bool d1), trivial⟩
  intro g50 ts v50 hts E50
  simp only [fillL, Nat.reduceAdd, List.setIfInBounds_toArray, List.set_cons_zero, List.set_cons_succ] at hts
  subst hts
  have T51 : Below w.heap.size w v50 := T2.trans E50.below
  have l52 : q7 < v1.heap.size := b11.lt
  have l53 : q13 < v1.heap.size := b17.lt
  have l54 : q20 < v1.heap.size := b24.lt
  have l55 : q29 < v1.heap.size := b33.lt
  have l56 : q39 < v1.heap.size := b43.lt
  have b57 : Bx v50 q7 24 #[.bool na0, .slice A0 n0 c0] := (E50.far q7 b11.lt (by simp)).trans b11
  have b58 : Bx v50 q13 24 #[.bool na1, .slice A1 n1 c1] := (E50.far q13 b17.lt (by simp)).trans b17
  have b59 : Bx v50 q20 24 #[.bool false, .slice none 0 0] := (E50.far q20 b24.lt (by simp)).trans b24
  have b60 : Bx v50 q29 24 #[.bool false, .slice none 0 0] := (E50.far q29 b33.lt (by simp)).trans b33
  have b61 : Bx v50 q39 24 #[.bool false, .slice none 0 0] := (E50.far q39 b43.lt (by simp)).trans b43
  have f62 := f3.mono E50.mono
  have f63 := f4.mono E50.mono
  have f64 := f5.mono E50.mono
  have f65 := f6.mono E50.mono
  have f66 := f25.mono E50.mono
  have f67 := f34.mono E50.mono
  have f68 := f44.mono E50.mono
  have f69 : Az N v50 (g50 0) b := E50.facts 0 (by decide)
  have e70 : g50 1 = (.int .i64 b.sign) := E50.facts 1 (by decide)
  have e71 : g50 2 = (.bool false) := E50.facts 2 (by decide)
  refine then_normal ?_
  refine wp_cond_false e71 ?_
  refine wp_skip ?_
  refine then_normal ?_
  refine wp_seq ?_
  have HB : w.heap.size ≤ v50.heap.size := T51.size
  refine wp_plan_any [.val (.az N a), .val (.cz a), .val (.az N b), .val (.cz b), .new 2 none, .new 2 none, .put 7 30, .put 8 32] [] [] w.heap.size (by kernel_rfl) (by kernel_rfl) (by kernel_rfl) trivial HB ?_ ?_
  · exact ⟨fun s v h => does_val rfl rfl (x_load_z ((h.same 2 rfl).trans p8) ((h.far q7 b57.lt (by simp)).trans b57)) (f62.mono ((Mono.drew _).trans h.mono)),
      fun s v h => does_call rfl rfl (x_call1 Try.call15) (form_k (h.dep 0 rfl)),
      fun s v h => does_val rfl rfl (x_load_z ((h.same 3 rfl).trans p14) ((h.far q13 b58.lt (by simp)).trans b58)) (f64.mono ((Mono.drew _).trans h.mono)),
      fun s v h => does_call rfl rfl (x_call1 Try.call15) (form_k (h.dep 2 rfl)),
      fun s v h => does_new rfl rfl x_alloc_z (okz _ _ _ _) rfl (.inl rfl),
      fun s v h => does_new rfl rfl x_alloc_z (okz _ _ _ _) rfl (.inl rfl),
      fun s v h => by obtain ⟨q, e1, e2, e3⟩ := new_at (h.dep 4 rfl); exact does_put_z rfl rfl e1 (h.dep 1 rfl).shape e3 (Nat.le_trans HB e2),
      fun s v h => by obtain ⟨q, e1, e2, e3⟩ := new_at (h.dep 5 rfl); exact does_put_z rfl rfl e1 (h.dep 3 rfl).shape e3 (Nat.le_trans HB e2), trivial⟩
  intro g72 ts v72 hts E72
  simp only [fillL, Nat.reduceAdd, List.setIfInBounds_toArray, List.set_cons_zero, List.set_cons_succ] at hts
  subst hts
  have T73 : Below w.heap.size w v72 := (below_toDrew T51).trans E72.below
  have l74 : q7 < v50.heap.size := b57.lt
  have l75 : q13 < v50.heap.size := b58.lt
  have l76 : q20 < v50.heap.size := b59.lt
  have l77 : q29 < v50.heap.size := b60.lt
  have l78 : q39 < v50.heap.size := b61.lt
  have b79 : Bx v72 q7 24 #[.bool na0, .slice A0 n0 c0] := (E72.far q7 b57.lt (by simp)).trans b57
  have b80 : Bx v72 q13 24 #[.bool na1, .slice A1 n1 c1] := (E72.far q13 b58.lt (by simp)).trans b58
  have b81 : Bx v72 q20 24 #[.bool false, .slice none 0 0] := (E72.far q20 b59.lt (by simp)).trans b59
  have b82 : Bx v72 q29 24 #[.bool false, .slice none 0 0] := (E72.far q29 b60.lt (by simp)).trans b60
  have b83 : Bx v72 q39 24 #[.bool false, .slice none 0 0] := (E72.far q39 b61.lt (by simp)).trans b61
  have f84 := f62.mono ((Mono.drew _).trans E72.mono)
  have f85 := f63.mono ((Mono.drew _).trans E72.mono)
  have f86 := f64.mono ((Mono.drew _).trans E72.mono)
  have f87 := f65.mono ((Mono.drew _).trans E72.mono)
  have f88 := f66.mono ((Mono.drew _).trans E72.mono)
  have f89 := f67.mono ((Mono.drew _).trans E72.mono)
  have f90 := f68.mono ((Mono.drew _).trans E72.mono)
  have f91 := f69.mono ((Mono.drew _).trans E72.mono)
  have f92 : Az N v72 (g72 0) a := E72.facts 0 (by decide)
  have f93 : Cz v72 (g72 1) a := E72.facts 1 (by decide)
  have f94 : Az N v72 (g72 2) b := E72.facts 2 (by decide)
  have f95 : Cz v72 (g72 3) b := E72.facts 3 (by decide)
  obtain ⟨q96, p97, l98, o99⟩ : ∃ q, g72 4 = .pointer (some ⟨q, 0, none⟩) ∧ v50.heap.size ≤ q ∧ OkB v72 q 2 := E72.facts 4 (by decide)
  have h100 : w.heap.size ≤ q96 := Nat.le_trans HB l98
  have n101 : q7 ≠ q96 := by omega
  have n102 : q13 ≠ q96 := by omega
  have n103 : q20 ≠ q96 := by omega
  have n104 : q29 ≠ q96 := by omega
  have n105 : q39 ≠ q96 := by omega
  obtain ⟨q106, p107, l108, o109⟩ : ∃ q, g72 5 = .pointer (some ⟨q, 0, none⟩) ∧ v50.heap.size ≤ q ∧ OkB v72 q 2 := E72.facts 5 (by decide)
  have h110 : w.heap.size ≤ q106 := Nat.le_trans HB l108
  have n111 : q7 ≠ q106 := by omega
  have n112 : q13 ≠ q106 := by omega
  have n113 : q20 ≠ q106 := by omega
  have n114 : q29 ≠ q106 := by omega
  have n115 : q39 ≠ q106 := by omega
  have n116 : q96 ≠ q106 := apart_ne (E72.apart 4 5 (by decide) (by decide) (by decide) ⟨_, _, rfl⟩ ⟨_, _, rfl⟩) p97 p107
  obtain ⟨t117, x119, A120, m121, c122, e123, b118⟩ := put_info (E72.facts 6 (by decide)) p97 f93.shape
  have f124 : Cz v72 (.agg #[.bool x119, .slice A120 m121 c122]) a := f93.at e123.symm
  obtain ⟨t125, x127, A128, m129, c130, e131, b126⟩ := put_info (E72.facts 7 (by decide)) p107 f95.shape
  have f132 : Cz v72 (.agg #[.bool x127, .slice A128 m129 c130]) b := f95.at e131.symm
  refine then_normal ?_
  refine wp_seq ?_
  have HB : w.heap.size ≤ v72.heap.size := T73.size
  refine wp_plan_seq [.val (.cz 1), .val (.is (.agg #[.bool false, .slice none 0 0])), .new 2 none, .new 2 none, .put 9 33, .put 10 34] [] [] w.heap.size (by kernel_rfl) (by kernel_rfl) trivial HB ?_ ?_
  · exact ⟨fun s v h => does_call rfl rfl (x_call1 Try.call42) (of_k rfl (by decide) (by decide)),
      fun s v h => does_val rfl rfl x_build0 rfl,
      fun s v h => does_new rfl rfl x_alloc_z (okz _ _ _ _) rfl (.inl rfl),
      fun s v h => does_new rfl rfl x_alloc_z (okz _ _ _ _) rfl (.inl rfl),
      fun s v h => by obtain ⟨q, e1, e2, e3⟩ := new_at (h.dep 2 rfl); exact does_put_z rfl rfl e1 (h.dep 0 rfl).shape e3 (Nat.le_trans HB e2),
      fun s v h => by obtain ⟨q, e1, e2, e3⟩ := new_at (h.dep 3 rfl); exact does_put_z rfl rfl e1 ⟨_, _, _, _, (h.dep 1 rfl)⟩ e3 (Nat.le_trans HB e2), trivial⟩
  intro g133 ts v133 hts E133
  simp only [fillL, Nat.reduceAdd, List.setIfInBounds_toArray, List.set_cons_zero, List.set_cons_succ] at hts
  subst hts
  have T134 : Below w.heap.size w v133 := T73.trans E133.below
  have l135 : q7 < v72.heap.size := b79.lt
  have l136 : q13 < v72.heap.size := b80.lt
  have l137 : q20 < v72.heap.size := b81.lt
  have l138 : q29 < v72.heap.size := b82.lt
  have l139 : q39 < v72.heap.size := b83.lt
  have l140 : q96 < v72.heap.size := b118.lt
  have l141 : q106 < v72.heap.size := b126.lt
  have b142 : Bx v133 q7 24 #[.bool na0, .slice A0 n0 c0] := (E133.far q7 b79.lt (by simp)).trans b79
  have b143 : Bx v133 q13 24 #[.bool na1, .slice A1 n1 c1] := (E133.far q13 b80.lt (by simp)).trans b80
  have b144 : Bx v133 q20 24 #[.bool false, .slice none 0 0] := (E133.far q20 b81.lt (by simp)).trans b81
  have b145 : Bx v133 q29 24 #[.bool false, .slice none 0 0] := (E133.far q29 b82.lt (by simp)).trans b82
  have b146 : Bx v133 q39 24 #[.bool false, .slice none 0 0] := (E133.far q39 b83.lt (by simp)).trans b83
  have b147 : Bx v133 q96 t117 #[.bool x119, .slice A120 m121 c122] := (E133.far q96 b118.lt (by simp)).trans b118
  have b148 : Bx v133 q106 t125 #[.bool x127, .slice A128 m129 c130] := (E133.far q106 b126.lt (by simp)).trans b126
  have f149 := f84.mono E133.mono
  have f150 := f85.mono E133.mono
  have f151 := f86.mono E133.mono
  have f152 := f87.mono E133.mono
  have f153 := f88.mono E133.mono
  have f154 := f89.mono E133.mono
  have f155 := f90.mono E133.mono
  have f156 := f91.mono E133.mono
  have f157 := f92.mono E133.mono
  have f158 := f93.mono E133.mono
  have f159 := f94.mono E133.mono
  have f160 := f95.mono E133.mono
  have f161 := f124.mono E133.mono
  have f162 := f132.mono E133.mono
  have f163 : Cz v133 (g133 0) 1 := E133.facts 0 (by decide)
  have e164 : g133 1 = (.agg #[.bool false, .slice none 0 0]) := E133.facts 1 (by decide)
  obtain ⟨q165, p166, l167, o168⟩ : ∃ q, g133 2 = .pointer (some ⟨q, 0, none⟩) ∧ v72.heap.size ≤ q ∧ OkB v133 q 2 := E133.facts 2 (by decide)
  have h169 : w.heap.size ≤ q165 := Nat.le_trans HB l167
  have n170 : q7 ≠ q165 := by omega
  have n171 : q13 ≠ q165 := by omega
  have n172 : q20 ≠ q165 := by omega
  have n173 : q29 ≠ q165 := by omega
  have n174 : q39 ≠ q165 := by omega
  have n175 : q96 ≠ q165 := by omega
  have n176 : q106 ≠ q165 := by omega
  obtain ⟨q177, p178, l179, o180⟩ : ∃ q, g133 3 = .pointer (some ⟨q, 0, none⟩) ∧ v72.heap.size ≤ q ∧ OkB v133 q 2 := E133.facts 3 (by decide)
  have h181 : w.heap.size ≤ q177 := Nat.le_trans HB l179
  have n182 : q7 ≠ q177 := by omega
  have n183 : q13 ≠ q177 := by omega
  have n184 : q20 ≠ q177 := by omega
  have n185 : q29 ≠ q177 := by omega
  have n186 : q39 ≠ q177 := by omega
  have n187 : q96 ≠ q177 := by omega
  have n188 : q106 ≠ q177 := by omega
  have n189 : q165 ≠ q177 := apart_ne (E133.apart 2 3 (by decide) (by decide) (by decide) ⟨_, _, rfl⟩ ⟨_, _, rfl⟩) p166 p178
  obtain ⟨t190, x192, A193, m194, c195, e196, b191⟩ := put_info (E133.facts 4 (by decide)) p166 f163.shape
  have f197 : Cz v133 (.agg #[.bool x192, .slice A193 m194 c195]) 1 := f163.at e196.symm
  obtain ⟨t198, b199⟩ := put_lit (E133.facts 5 (by decide)) p178 e164
  have f200 : Cz v133 (.agg #[.bool false, .slice none 0 0]) 0 := cz_zero _
  refine then_normal ?_
  refine wp_seq ?_
  refine wp_block ?_
  refine wp_loop_v 89 (fun k y wL => ∃ (r1 : Int) (s1 : Int) (x1 : Int) (u1 : Int) (ty7 : TypeId) (b7_ : Bool) (A7_ : Option Addr) (m7_ c7_ : Nat) (ty8 : TypeId) (b8_ : Bool) (A8_ : Option Addr) (m8_ c8_ : Nat) (ty9 : TypeId) (b9_ : Bool) (A9_ : Option Addr) (m9_ c9_ : Nat) (ty10 : TypeId) (b10_ : Bool) (A10_ : Option Addr) (m10_ c10_ : Nat), y 2 = .pointer (some ⟨q7, 0, none⟩) ∧ y 3 = .pointer (some ⟨q13, 0, none⟩) ∧ y 4 = .pointer (some ⟨q20, 0, none⟩) ∧ y 5 = .pointer (some ⟨q29, 0, none⟩) ∧ y 6 = .pointer (some ⟨q39, 0, none⟩) ∧ y 7 = .pointer (some ⟨q96, 0, none⟩) ∧ y 8 = .pointer (some ⟨q106, 0, none⟩) ∧ y 9 = .pointer (some ⟨q165, 0, none⟩) ∧ y 10 = .pointer (some ⟨q177, 0, none⟩) ∧ Below w.heap.size w wL ∧ Bx wL q7 24 #[.bool na0, .slice A0 n0 c0] ∧ Az N wL (.agg #[.bool na0, .slice A0 n0 c0]) a ∧ Bx wL q13 24 #[.bool na1, .slice A1 n1 c1] ∧ Az N wL (.agg #[.bool na1, .slice A1 n1 c1]) b ∧ Bx wL q20 24 #[.bool false, .slice none 0 0] ∧ Cz wL (.agg #[.bool false, .slice none 0 0]) 0 ∧ Bx wL q29 24 #[.bool false, .slice none 0 0] ∧ Cz wL (.agg #[.bool false, .slice none 0 0]) 0 ∧ Bx wL q39 24 #[.bool false, .slice none 0 0] ∧ Cz wL (.agg #[.bool false, .slice none 0 0]) 0 ∧ Bx wL q96 ty7 #[.bool b7_, .slice A7_ m7_ c7_] ∧ Cz wL (.agg #[.bool b7_, .slice A7_ m7_ c7_]) r1 ∧ Bx wL q106 ty8 #[.bool b8_, .slice A8_ m8_ c8_] ∧ Cz wL (.agg #[.bool b8_, .slice A8_ m8_ c8_]) s1 ∧ Bx wL q165 ty9 #[.bool b9_, .slice A9_ m9_ c9_] ∧ Cz wL (.agg #[.bool b9_, .slice A9_ m9_ c9_]) x1 ∧ Bx wL q177 ty10 #[.bool b10_, .slice A10_ m10_ c10_] ∧ Cz wL (.agg #[.bool b10_, .slice A10_ m10_ c10_]) u1 ∧ BInv a b r1 s1 x1 u1 ∧ k = s1.natAbs) rfl rfl ⟨_, a, b, 1, 0, t117, x119, A120, m121, c122, t125, x127, A128, m129, c130, t190, x192, A193, m194, c195, t198, false, none, 0, 0, p8, p14, p21, p30, p40, p97, p107, p166, p178, T134, b142, f149, b143, f151, b144, f153, b145, f154, b146, f155, b147, f161, b148, f162, b191, f197, b199, f200, BInv.start hu, rfl⟩ ?_
  rintro k y201 v201 ⟨r1, s1, x1, u1, ty7, b7_, A7_, m7_, c7_, ty8, b8_, A8_, m8_, c8_, ty9, b9_, A9_, m9_, c9_, ty10, b10_, A10_, m10_, c10_, p202, p203, p204, p205, p206, p207, p208, p209, p210, T211, b212, f213, b214, f215, b216, f217, b218, f219, b220, f221, b222, f223, b224, f225, b226, f227, b228, f229, hJ, hk⟩
  have hlit : litv 89 y201 = #[y201 0, y201 1, y201 2, y201 3, y201 4, y201 5, y201 6, y201 7, y201 8, y201 9, y201 10, y201 11, y201 12, y201 13, y201 14, y201 15, y201 16, y201 17, y201 18, y201 19, y201 20, y201 21, y201 22, y201 23, y201 24, y201 25, y201 26, y201 27, y201 28, y201 29, y201 30, y201 31, y201 32, y201 33, y201 34, y201 35, y201 36, y201 37, y201 38, y201 39, y201 40, y201 41, y201 42, y201 43, y201 44, y201 45, y201 46, y201 47, y201 48, y201 49, y201 50, y201 51, y201 52, y201 53, y201 54, y201 55, y201 56, y201 57, y201 58, y201 59, y201 60, y201 61, y201 62, y201 63, y201 64, y201 65, y201 66, y201 67, y201 68, y201 69, y201 70, y201 71, y201 72, y201 73, y201 74, y201 75, y201 76, y201 77, y201 78, y201 79, y201 80, y201 81, y201 82, y201 83, y201 84, y201 85, y201 86, y201 87, y201 88] := rfl
  rw [hlit]
  clear hlit
  have lr := len_max hJ.rb la0 la1
  have ls := len_le hJ.sb la1
  have lx := len_le hJ.xb la1
  have lu := len_le hJ.ub la1
  by_cases hs : s1 = 0
  · skip
    have d0 : (s1.sign == 0) = true := sign_eq_zero.2 hs
    obtain ⟨hr0, hrg⟩ := (hs ▸ hJ : BInv a b r1 0 x1 u1).last hu
    refine wp_seq ?_
    refine wp_seq ?_
    have HB : w.heap.size ≤ v201.heap.size := T211.size
    refine wp_plan_seq [.val (.cz s1), .val (.is (.int .i64 s1.sign)), .val (.is (.bool false))] [] [] w.heap.size (by kernel_rfl) (by kernel_rfl) trivial HB ?_ ?_
    · exact ⟨fun s v h => does_val rfl rfl (x_load_z ((h.same 8 rfl).trans p208) ((h.far q106 b224.lt (by simp)).trans b224)) (f225.mono h.mono),
      fun s v h => does_call rfl rfl (x_call1 Try.call39) (sign_k ((h.dep 0 rfl).az (N := N) ls)),
      fun s v h => does_val rfl rfl (x_neq_int (h.dep 1 rfl) rfl) (congrArg (fun x => Value.bool (!x)) d0), trivial⟩
    intro g230 ts v230 hts E230
    simp only [fillL, Nat.reduceAdd, List.setIfInBounds_toArray, List.set_cons_zero, List.set_cons_succ] at hts
    subst hts
    have T231 : Below w.heap.size w v230 := T211.trans E230.below
    have l232 : q7 < v201.heap.size := b212.lt
    have l233 : q13 < v201.heap.size := b214.lt
    have l234 : q20 < v201.heap.size := b216.lt
    have l235 : q29 < v201.heap.size := b218.lt
    have l236 : q39 < v201.heap.size := b220.lt
    have l237 : q96 < v201.heap.size := b222.lt
    have l238 : q106 < v201.heap.size := b224.lt
    have l239 : q165 < v201.heap.size := b226.lt
    have l240 : q177 < v201.heap.size := b228.lt
    have b241 : Bx v230 q7 24 #[.bool na0, .slice A0 n0 c0] := (E230.far q7 b212.lt (by simp)).trans b212
    have b242 : Bx v230 q13 24 #[.bool na1, .slice A1 n1 c1] := (E230.far q13 b214.lt (by simp)).trans b214
    have b243 : Bx v230 q20 24 #[.bool false, .slice none 0 0] := (E230.far q20 b216.lt (by simp)).trans b216
    have b244 : Bx v230 q29 24 #[.bool false, .slice none 0 0] := (E230.far q29 b218.lt (by simp)).trans b218
    have b245 : Bx v230 q39 24 #[.bool false, .slice none 0 0] := (E230.far q39 b220.lt (by simp)).trans b220
    have b246 : Bx v230 q96 ty7 #[.bool b7_, .slice A7_ m7_ c7_] := (E230.far q96 b222.lt (by simp)).trans b222
    have b247 : Bx v230 q106 ty8 #[.bool b8_, .slice A8_ m8_ c8_] := (E230.far q106 b224.lt (by simp)).trans b224
    have b248 : Bx v230 q165 ty9 #[.bool b9_, .slice A9_ m9_ c9_] := (E230.far q165 b226.lt (by simp)).trans b226
    have b249 : Bx v230 q177 ty10 #[.bool b10_, .slice A10_ m10_ c10_] := (E230.far q177 b228.lt (by simp)).trans b228
    have f250 := f213.mono E230.mono
    have f251 := f215.mono E230.mono
    have f252 := f217.mono E230.mono
    have f253 := f219.mono E230.mono
    have f254 := f221.mono E230.mono
    have f255 := f223.mono E230.mono
    have f256 := f225.mono E230.mono
    have f257 := f227.mono E230.mono
    have f258 := f229.mono E230.mono
    have f259 : Cz v230 (g230 0) s1 := E230.facts 0 (by decide)
    have e260 : g230 1 = (.int .i64 s1.sign) := E230.facts 1 (by decide)
    have e261 : g230 2 = (.bool false) := E230.facts 2 (by decide)
    refine then_normal ?_
    refine wp_cond_false e261 ?_
    refine wp_exit ?_
    refine exit_then ?_
    refine exit_then ?_
    refine exit_block ?_
    refine then_normal ?_
    refine wp_seq ?_
    refine wp_seq ?_
    have HB : w.heap.size ≤ v230.heap.size := T231.size
    refine wp_plan_seq [.val (.cz r1), .val (.is (.int .i64 r1.sign)), .val (.is (.bool (decide (r1.sign < 0))))] [] [] w.heap.size (by kernel_rfl) (by kernel_rfl) trivial HB ?_ ?_
    · exact ⟨fun s v h => does_val rfl rfl (x_load_z ((h.same 7 rfl).trans p207) ((h.far q96 b246.lt (by simp)).trans b246)) (f255.mono h.mono),
      fun s v h => does_call rfl rfl (x_call1 Try.call39) (sign_k ((h.dep 0 rfl).az (N := N) lr)),
      fun s v h => does_val rfl rfl (x_lss (h.dep 1 rfl) rfl) rfl, trivial⟩
    intro g262 ts v262 hts E262
    simp only [fillL, Nat.reduceAdd, List.setIfInBounds_toArray, List.set_cons_zero, List.set_cons_succ] at hts
    subst hts
    have T263 : Below w.heap.size w v262 := T231.trans E262.below
    have l264 : q7 < v230.heap.size := b241.lt
    have l265 : q13 < v230.heap.size := b242.lt
    have l266 : q20 < v230.heap.size := b243.lt
    have l267 : q29 < v230.heap.size := b244.lt
    have l268 : q39 < v230.heap.size := b245.lt
    have l269 : q96 < v230.heap.size := b246.lt
    have l270 : q106 < v230.heap.size := b247.lt
    have l271 : q165 < v230.heap.size := b248.lt
    have l272 : q177 < v230.heap.size := b249.lt
    have b273 : Bx v262 q7 24 #[.bool na0, .slice A0 n0 c0] := (E262.far q7 b241.lt (by simp)).trans b241
    have b274 : Bx v262 q13 24 #[.bool na1, .slice A1 n1 c1] := (E262.far q13 b242.lt (by simp)).trans b242
    have b275 : Bx v262 q20 24 #[.bool false, .slice none 0 0] := (E262.far q20 b243.lt (by simp)).trans b243
    have b276 : Bx v262 q29 24 #[.bool false, .slice none 0 0] := (E262.far q29 b244.lt (by simp)).trans b244
    have b277 : Bx v262 q39 24 #[.bool false, .slice none 0 0] := (E262.far q39 b245.lt (by simp)).trans b245
    have b278 : Bx v262 q96 ty7 #[.bool b7_, .slice A7_ m7_ c7_] := (E262.far q96 b246.lt (by simp)).trans b246
    have b279 : Bx v262 q106 ty8 #[.bool b8_, .slice A8_ m8_ c8_] := (E262.far q106 b247.lt (by simp)).trans b247
    have b280 : Bx v262 q165 ty9 #[.bool b9_, .slice A9_ m9_ c9_] := (E262.far q165 b248.lt (by simp)).trans b248
    have b281 : Bx v262 q177 ty10 #[.bool b10_, .slice A10_ m10_ c10_] := (E262.far q177 b249.lt (by simp)).trans b249
    have f282 := f250.mono E262.mono
    have f283 := f251.mono E262.mono
    have f284 := f252.mono E262.mono
    have f285 := f253.mono E262.mono
    have f286 := f254.mono E262.mono
    have f287 := f255.mono E262.mono
    have f288 := f256.mono E262.mono
    have f289 := f257.mono E262.mono
    have f290 := f258.mono E262.mono
    have f291 := f259.mono E262.mono
    have f292 : Cz v262 (g262 0) r1 := E262.facts 0 (by decide)
    have e293 : g262 1 = (.int .i64 r1.sign) := E262.facts 1 (by decide)
    have e294 : g262 2 = (.bool (decide (r1.sign < 0))) := E262.facts 2 (by decide)
    refine then_normal ?_
    rcases h295 : (decide (r1.sign < 0)) with _ | _
    · skip
      have hr : 0 < r1 := by have := Int.sign_nonneg_iff.1 (show 0 ≤ r1.sign by have := of_decide_eq_false h295; omega); omega
      obtain ⟨E1, hst, E2⟩ := bez_fin hu hr hrg hJ.px
      refine wp_cond_false (e294.trans (congrArg Value.bool h295)) ?_
      refine wp_skip ?_
      refine then_normal ?_
      refine wp_seq ?_
      have HB : w.heap.size ≤ v262.heap.size := T263.size
      refine wp_plan_any [.val (.az N b), .val (.cz (b.natAbs : Int)), .val (.cz r1), .val (.tup3 (.cz (fl (b.natAbs : Int) r1)) (.cz (md (b.natAbs : Int) r1)) (.is (.int .i64 0))), .val (.tup3 (.cz (fl (b.natAbs : Int) r1)) (.cz (md (b.natAbs : Int) r1)) (.is (.int .i64 0))), .val (.cz (fl (b.natAbs : Int) r1)), .val (.cz (md (b.natAbs : Int) r1)), .val (.is (.int .i64 0)), .new 2 none, .new 2 none, .put 14 65, .put 15 66, .val (.is (.int .i64 0))] [] [] w.heap.size (by kernel_rfl) (by kernel_rfl) (by kernel_rfl) trivial HB ?_ ?_
      · exact ⟨fun s v h => does_val rfl rfl (x_load_z ((h.same 3 rfl).trans p203) ((h.far q13 b274.lt (by simp)).trans b274)) (f283.mono ((Mono.drew _).trans h.mono)),
      fun s v h => does_call rfl rfl (x_call1 Try.call41) (abs_k (h.dep 0 rfl)),
      fun s v h => does_val rfl rfl (x_load_z ((h.same 7 rfl).trans p207) ((h.far q96 b278.lt (by simp)).trans b278)) (f287.mono ((Mono.drew _).trans h.mono)),
      fun s v h => does_call rfl rfl (x_call2 Try.call24) (zfloor_k ((h.dep 1 rfl).az (N := N) (len_abs la1)) ((h.dep 2 rfl).az (N := N) lr) (by omega) (by omega) (by omega)),
      fun s v h => does_val rfl rfl (x_move) (h.dep 3 rfl),
      fun s v h => by obtain ⟨r0, r1, r2, e, f0, f1, f2⟩ := tup3_at (h.dep 4 rfl); exact does_val rfl rfl (x_ext e rfl) f0,
      fun s v h => by obtain ⟨r0, r1, r2, e, f0, f1, f2⟩ := tup3_at (h.dep 4 rfl); exact does_val rfl rfl (x_ext e rfl) f1,
      fun s v h => by obtain ⟨r0, r1, r2, e, f0, f1, f2⟩ := tup3_at (h.dep 4 rfl); exact does_val rfl rfl (x_ext e rfl) f2,
      fun s v h => does_new rfl rfl x_alloc_z (okz _ _ _ _) rfl (.inl rfl),
      fun s v h => does_new rfl rfl x_alloc_z (okz _ _ _ _) rfl (.inl rfl),
      fun s v h => by obtain ⟨q, e1, e2, e3⟩ := new_at (h.dep 8 rfl); exact does_put_z rfl rfl e1 (h.dep 5 rfl).shape e3 (Nat.le_trans HB e2),
      fun s v h => by obtain ⟨q, e1, e2, e3⟩ := new_at (h.dep 9 rfl); exact does_put_z rfl rfl e1 (h.dep 6 rfl).shape e3 (Nat.le_trans HB e2),
      fun s v h => does_val rfl rfl (x_assign) (h.dep 7 rfl), trivial⟩
      intro g296 ts v296 hts E296
      simp only [fillL, Nat.reduceAdd, List.setIfInBounds_toArray, List.set_cons_zero, List.set_cons_succ] at hts
      subst hts
      have T297 : Below w.heap.size w v296 := (below_toDrew T263).trans E296.below
      have l298 : q7 < v262.heap.size := b273.lt
      have l299 : q13 < v262.heap.size := b274.lt
      have l300 : q20 < v262.heap.size := b275.lt
      have l301 : q29 < v262.heap.size := b276.lt
      have l302 : q39 < v262.heap.size := b277.lt
      have l303 : q96 < v262.heap.size := b278.lt
      have l304 : q106 < v262.heap.size := b279.lt
      have l305 : q165 < v262.heap.size := b280.lt
      have l306 : q177 < v262.heap.size := b281.lt
      have b307 : Bx v296 q7 24 #[.bool na0, .slice A0 n0 c0] := (E296.far q7 b273.lt (by simp)).trans b273
      have b308 : Bx v296 q13 24 #[.bool na1, .slice A1 n1 c1] := (E296.far q13 b274.lt (by simp)).trans b274
      have b309 : Bx v296 q20 24 #[.bool false, .slice none 0 0] := (E296.far q20 b275.lt (by simp)).trans b275
      have b310 : Bx v296 q29 24 #[.bool false, .slice none 0 0] := (E296.far q29 b276.lt (by simp)).trans b276
      have b311 : Bx v296 q39 24 #[.bool false, .slice none 0 0] := (E296.far q39 b277.lt (by simp)).trans b277
      have b312 : Bx v296 q96 ty7 #[.bool b7_, .slice A7_ m7_ c7_] := (E296.far q96 b278.lt (by simp)).trans b278
      have b313 : Bx v296 q106 ty8 #[.bool b8_, .slice A8_ m8_ c8_] := (E296.far q106 b279.lt (by simp)).trans b279
      have b314 : Bx v296 q165 ty9 #[.bool b9_, .slice A9_ m9_ c9_] := (E296.far q165 b280.lt (by simp)).trans b280
      have b315 : Bx v296 q177 ty10 #[.bool b10_, .slice A10_ m10_ c10_] := (E296.far q177 b281.lt (by simp)).trans b281
      have f316 := f282.mono ((Mono.drew _).trans E296.mono)
      have f317 := f283.mono ((Mono.drew _).trans E296.mono)
      have f318 := f284.mono ((Mono.drew _).trans E296.mono)
      have f319 := f285.mono ((Mono.drew _).trans E296.mono)
      have f320 := f286.mono ((Mono.drew _).trans E296.mono)
      have f321 := f287.mono ((Mono.drew _).trans E296.mono)
      have f322 := f288.mono ((Mono.drew _).trans E296.mono)
      have f323 := f289.mono ((Mono.drew _).trans E296.mono)
      have f324 := f290.mono ((Mono.drew _).trans E296.mono)
      have f325 := f291.mono ((Mono.drew _).trans E296.mono)
      have f326 := f292.mono ((Mono.drew _).trans E296.mono)
      have f327 : Az N v296 (g296 0) b := E296.facts 0 (by decide)
      have f328 : Cz v296 (g296 1) (b.natAbs : Int) := E296.facts 1 (by decide)
      have f329 : Cz v296 (g296 2) r1 := E296.facts 2 (by decide)
      have f330 : Cz v296 (g296 5) (fl (b.natAbs : Int) r1) := E296.facts 5 (by decide)
      have f331 : Cz v296 (g296 6) (md (b.natAbs : Int) r1) := E296.facts 6 (by decide)
      have e332 : g296 7 = (.int .i64 0) := E296.facts 7 (by decide)
      have e333 : g296 12 = (.int .i64 0) := E296.facts 12 (by decide)
      obtain ⟨q334, p335, l336, o337⟩ : ∃ q, g296 8 = .pointer (some ⟨q, 0, none⟩) ∧ v262.heap.size ≤ q ∧ OkB v296 q 2 := E296.facts 8 (by decide)
      have h338 : w.heap.size ≤ q334 := Nat.le_trans HB l336
      have n339 : q7 ≠ q334 := by omega
      have n340 : q13 ≠ q334 := by omega
      have n341 : q20 ≠ q334 := by omega
      have n342 : q29 ≠ q334 := by omega
      have n343 : q39 ≠ q334 := by omega
      have n344 : q96 ≠ q334 := by omega
      have n345 : q106 ≠ q334 := by omega
      have n346 : q165 ≠ q334 := by omega
      have n347 : q177 ≠ q334 := by omega
      obtain ⟨q348, p349, l350, o351⟩ : ∃ q, g296 9 = .pointer (some ⟨q, 0, none⟩) ∧ v262.heap.size ≤ q ∧ OkB v296 q 2 := E296.facts 9 (by decide)
      have h352 : w.heap.size ≤ q348 := Nat.le_trans HB l350
      have n353 : q7 ≠ q348 := by omega
      have n354 : q13 ≠ q348 := by omega
      have n355 : q20 ≠ q348 := by omega
      have n356 : q29 ≠ q348 := by omega
      have n357 : q39 ≠ q348 := by omega
      have n358 : q96 ≠ q348 := by omega
      have n359 : q106 ≠ q348 := by omega
      have n360 : q165 ≠ q348 := by omega
      have n361 : q177 ≠ q348 := by omega
      have n362 : q334 ≠ q348 := apart_ne (E296.apart 8 9 (by decide) (by decide) (by decide) ⟨_, _, rfl⟩ ⟨_, _, rfl⟩) p335 p349
      obtain ⟨t363, x365, A366, m367, c368, e369, b364⟩ := put_info (E296.facts 10 (by decide)) p335 f330.shape
      have f370 : Cz v296 (.agg #[.bool x365, .slice A366 m367 c368]) (fl (b.natAbs : Int) r1) := f330.at e369.symm
      obtain ⟨t371, x373, A374, m375, c376, e377, b372⟩ := put_info (E296.facts 11 (by decide)) p349 f331.shape
      have f378 : Cz v296 (.agg #[.bool x373, .slice A374 m375 c376]) (md (b.natAbs : Int) r1) := f331.at e377.symm
      refine then_normal ?_
      refine wp_seq ?_
      have HB : w.heap.size ≤ v296.heap.size := T297.size
      refine wp_plan_seq [.val (.cz x1), .val (.cz (fl (b.natAbs : Int) r1)), .val (.tup3 (.cz (fl x1 (fl (b.natAbs : Int) r1))) (.cz (md x1 (fl (b.natAbs : Int) r1))) (.is (.int .i64 0))), .val (.tup3 (.cz (fl x1 (fl (b.natAbs : Int) r1))) (.cz (md x1 (fl (b.natAbs : Int) r1))) (.is (.int .i64 0))), .val (.cz (fl x1 (fl (b.natAbs : Int) r1))), .val (.cz (md x1 (fl (b.natAbs : Int) r1))), .val (.is (.int .i64 0)), .put 9 73] [9] [q165] w.heap.size (by kernel_rfl) (by kernel_rfl) ⟨p209, b314.lt, (by simp), trivial⟩ HB ?_ ?_
      · exact ⟨fun s v h => does_val rfl rfl (x_load_z ((h.same 9 rfl).trans p209) ((h.held 7 9 73 _ rfl rfl rfl p209).trans b314)) (f323.mono h.mono),
      fun s v h => does_val rfl rfl (x_load_z ((h.same 14 rfl).trans p335) ((h.far q334 b364.lt (nin1 n346.symm)).trans b364)) (f370.mono h.mono),
      fun s v h => does_call rfl rfl (x_call2 Try.call24) (zfloor_k ((h.dep 0 rfl).az (N := N) lx) ((h.dep 1 rfl).az (N := (N + 1)) (fl_len (len_abs la1))) (by omega) (by omega) hst),
      fun s v h => does_val rfl rfl (x_move) (h.dep 2 rfl),
      fun s v h => by obtain ⟨r0, r1, r2, e, f0, f1, f2⟩ := tup3_at (h.dep 3 rfl); exact does_val rfl rfl (x_ext e rfl) f0,
      fun s v h => by obtain ⟨r0, r1, r2, e, f0, f1, f2⟩ := tup3_at (h.dep 3 rfl); exact does_val rfl rfl (x_ext e rfl) f1,
      fun s v h => by obtain ⟨r0, r1, r2, e, f0, f1, f2⟩ := tup3_at (h.dep 3 rfl); exact does_val rfl rfl (x_ext e rfl) f2,
      fun s v h => does_put_z rfl rfl ((h.same 9 rfl).trans p209) (h.dep 5 rfl).shape (h.mono.ok _ _ b314.ok2) h169, trivial⟩
      intro g379 ts v379 hts E379
      simp only [fillL, Nat.reduceAdd, List.setIfInBounds_toArray, List.set_cons_zero, List.set_cons_succ] at hts
      subst hts
      have T380 : Below w.heap.size w v379 := T297.trans E379.below
      have l381 : q7 < v296.heap.size := b307.lt
      have l382 : q13 < v296.heap.size := b308.lt
      have l383 : q20 < v296.heap.size := b309.lt
      have l384 : q29 < v296.heap.size := b310.lt
      have l385 : q39 < v296.heap.size := b311.lt
      have l386 : q96 < v296.heap.size := b312.lt
      have l387 : q106 < v296.heap.size := b313.lt
      have l388 : q165 < v296.heap.size := b314.lt
      have l389 : q177 < v296.heap.size := b315.lt
      have l390 : q334 < v296.heap.size := b364.lt
      have l391 : q348 < v296.heap.size := b372.lt
      have b392 : Bx v379 q7 24 #[.bool na0, .slice A0 n0 c0] := (E379.far q7 b307.lt (nin1 n170)).trans b307
      have b393 : Bx v379 q13 24 #[.bool na1, .slice A1 n1 c1] := (E379.far q13 b308.lt (nin1 n171)).trans b308
      have b394 : Bx v379 q20 24 #[.bool false, .slice none 0 0] := (E379.far q20 b309.lt (nin1 n172)).trans b309
      have b395 : Bx v379 q29 24 #[.bool false, .slice none 0 0] := (E379.far q29 b310.lt (nin1 n173)).trans b310
      have b396 : Bx v379 q39 24 #[.bool false, .slice none 0 0] := (E379.far q39 b311.lt (nin1 n174)).trans b311
      have b397 : Bx v379 q96 ty7 #[.bool b7_, .slice A7_ m7_ c7_] := (E379.far q96 b312.lt (nin1 n175)).trans b312
      have b398 : Bx v379 q106 ty8 #[.bool b8_, .slice A8_ m8_ c8_] := (E379.far q106 b313.lt (nin1 n176)).trans b313
      have b399 : Bx v379 q177 ty10 #[.bool b10_, .slice A10_ m10_ c10_] := (E379.far q177 b315.lt (nin1 n189.symm)).trans b315
      have b400 : Bx v379 q334 t363 #[.bool x365, .slice A366 m367 c368] := (E379.far q334 b364.lt (nin1 n346.symm)).trans b364
      have b401 : Bx v379 q348 t371 #[.bool x373, .slice A374 m375 c376] := (E379.far q348 b372.lt (nin1 n360.symm)).trans b372
      have f402 := f316.mono E379.mono
      have f403 := f317.mono E379.mono
      have f404 := f318.mono E379.mono
      have f405 := f319.mono E379.mono
      have f406 := f320.mono E379.mono
      have f407 := f321.mono E379.mono
      have f408 := f322.mono E379.mono
      have f409 := f323.mono E379.mono
      have f410 := f324.mono E379.mono
      have f411 := f325.mono E379.mono
      have f412 := f326.mono E379.mono
      have f413 := f327.mono E379.mono
      have f414 := f328.mono E379.mono
      have f415 := f329.mono E379.mono
      have f416 := f330.mono E379.mono
      have f417 := f331.mono E379.mono
      have f418 := f370.mono E379.mono
      have f419 := f378.mono E379.mono
      have f420 : Cz v379 (g379 0) x1 := E379.facts 0 (by decide)
      have f421 : Cz v379 (g379 1) (fl (b.natAbs : Int) r1) := E379.facts 1 (by decide)
      have f422 : Cz v379 (g379 4) (fl x1 (fl (b.natAbs : Int) r1)) := E379.facts 4 (by decide)
      have f423 : Cz v379 (g379 5) (md x1 (fl (b.natAbs : Int) r1)) := E379.facts 5 (by decide)
      have e424 : g379 6 = (.int .i64 0) := E379.facts 6 (by decide)
      obtain ⟨t425, x427, A428, m429, c430, e431, b426⟩ := put_info (E379.facts 7 (by decide)) p209 f423.shape
      have f432 : Cz v379 (.agg #[.bool x427, .slice A428 m429 c430]) (md x1 (fl (b.natAbs : Int) r1)) := f423.at e431.symm
      refine then_normal ?_
      refine wp_seq ?_
      have HB : w.heap.size ≤ v379.heap.size := T380.size
      refine wp_plan_any [.val (.cz r1), .val (.cz (md x1 (fl (b.natAbs : Int) r1))), .val (.az N a), .val (.cz ((md x1 (fl (b.natAbs : Int) r1)) * a)), .val (.cz (r1 - ((md x1 (fl (b.natAbs : Int) r1)) * a))), .val (.az N b), .val (.tup3 (.cz (fl (r1 - ((md x1 (fl (b.natAbs : Int) r1)) * a)) b)) (.cz (md (r1 - ((md x1 (fl (b.natAbs : Int) r1)) * a)) b)) (.is (.int .i64 0))), .val (.tup3 (.cz (fl (r1 - ((md x1 (fl (b.natAbs : Int) r1)) * a)) b)) (.cz (md (r1 - ((md x1 (fl (b.natAbs : Int) r1)) * a)) b)) (.is (.int .i64 0))), .val (.cz (fl (r1 - ((md x1 (fl (b.natAbs : Int) r1)) * a)) b)), .val (.cz (md (r1 - ((md x1 (fl (b.natAbs : Int) r1)) * a)) b)), .val (.is (.int .i64 0)), .new 2 none, .new 2 none, .put 17 83, .put 18 84, .val (.is (.int .i64 0))] [] [] w.heap.size (by kernel_rfl) (by kernel_rfl) (by kernel_rfl) trivial HB ?_ ?_
      · exact ⟨fun s v h => does_val rfl rfl (x_load_z ((h.same 7 rfl).trans p207) ((h.far q96 b397.lt (by simp)).trans b397)) (f407.mono ((Mono.drew _).trans h.mono)),
      fun s v h => does_val rfl rfl (x_load_z ((h.same 9 rfl).trans p209) ((h.far q165 b426.lt (by simp)).trans b426)) (f432.mono ((Mono.drew _).trans h.mono)),
      fun s v h => does_val rfl rfl (x_load_z ((h.same 2 rfl).trans p202) ((h.far q7 b392.lt (by simp)).trans b392)) (f402.mono ((Mono.drew _).trans h.mono)),
      fun s v h => does_call rfl rfl (x_call2 Try.call16) (mul_k ((h.dep 1 rfl).az (N := (N + 1)) (md_len hst (fl_len (len_abs la1)))) (h.dep 2 rfl) (by omega) (by omega)),
      fun s v h => does_call rfl rfl (x_call2 Try.call13) (sub_k ((h.dep 0 rfl).az (N := N) lr) ((h.dep 3 rfl).az (N := ((N + 1) + N)) (len_mul (md_len hst (fl_len (len_abs la1))) la0)) (by omega) (by omega)),
      fun s v h => does_val rfl rfl (x_load_z ((h.same 3 rfl).trans p203) ((h.far q13 b393.lt (by simp)).trans b393)) (f403.mono ((Mono.drew _).trans h.mono)),
      fun s v h => does_call rfl rfl (x_call2 Try.call24) (zfloor_k ((h.dep 4 rfl).az (N := (max N ((N + 1) + N) + 1)) (len_sub' (n := (max N ((N + 1) + N) + 1)) lr (len_mul (md_len hst (fl_len (len_abs la1))) la0) (by omega) (by omega))) (h.dep 5 rfl) (by omega) (by omega) hu),
      fun s v h => does_val rfl rfl (x_move) (h.dep 6 rfl),
      fun s v h => by obtain ⟨r0, r1, r2, e, f0, f1, f2⟩ := tup3_at (h.dep 7 rfl); exact does_val rfl rfl (x_ext e rfl) f0,
      fun s v h => by obtain ⟨r0, r1, r2, e, f0, f1, f2⟩ := tup3_at (h.dep 7 rfl); exact does_val rfl rfl (x_ext e rfl) f1,
      fun s v h => by obtain ⟨r0, r1, r2, e, f0, f1, f2⟩ := tup3_at (h.dep 7 rfl); exact does_val rfl rfl (x_ext e rfl) f2,
      fun s v h => does_new rfl rfl x_alloc_z (okz _ _ _ _) rfl (.inl rfl),
      fun s v h => does_new rfl rfl x_alloc_z (okz _ _ _ _) rfl (.inl rfl),
      fun s v h => by obtain ⟨q, e1, e2, e3⟩ := new_at (h.dep 11 rfl); exact does_put_z rfl rfl e1 (h.dep 8 rfl).shape e3 (Nat.le_trans HB e2),
      fun s v h => by obtain ⟨q, e1, e2, e3⟩ := new_at (h.dep 12 rfl); exact does_put_z rfl rfl e1 (h.dep 9 rfl).shape e3 (Nat.le_trans HB e2),
      fun s v h => does_val rfl rfl (x_assign) (h.dep 10 rfl), trivial⟩
      intro g433 ts v433 hts E433
      simp only [fillL, Nat.reduceAdd, List.setIfInBounds_toArray, List.set_cons_zero, List.set_cons_succ] at hts
      subst hts
      have T434 : Below w.heap.size w v433 := (below_toDrew T380).trans E433.below
      have l435 : q7 < v379.heap.size := b392.lt
      have l436 : q13 < v379.heap.size := b393.lt
      have l437 : q20 < v379.heap.size := b394.lt
      have l438 : q29 < v379.heap.size := b395.lt
      have l439 : q39 < v379.heap.size := b396.lt
      have l440 : q96 < v379.heap.size := b397.lt
      have l441 : q106 < v379.heap.size := b398.lt
      have l442 : q165 < v379.heap.size := b426.lt
      have l443 : q177 < v379.heap.size := b399.lt
      have l444 : q334 < v379.heap.size := b400.lt
      have l445 : q348 < v379.heap.size := b401.lt
      have b446 : Bx v433 q7 24 #[.bool na0, .slice A0 n0 c0] := (E433.far q7 b392.lt (by simp)).trans b392
      have b447 : Bx v433 q13 24 #[.bool na1, .slice A1 n1 c1] := (E433.far q13 b393.lt (by simp)).trans b393
      have b448 : Bx v433 q20 24 #[.bool false, .slice none 0 0] := (E433.far q20 b394.lt (by simp)).trans b394
      have b449 : Bx v433 q29 24 #[.bool false, .slice none 0 0] := (E433.far q29 b395.lt (by simp)).trans b395
      have b450 : Bx v433 q39 24 #[.bool false, .slice none 0 0] := (E433.far q39 b396.lt (by simp)).trans b396
      have b451 : Bx v433 q96 ty7 #[.bool b7_, .slice A7_ m7_ c7_] := (E433.far q96 b397.lt (by simp)).trans b397
      have b452 : Bx v433 q106 ty8 #[.bool b8_, .slice A8_ m8_ c8_] := (E433.far q106 b398.lt (by simp)).trans b398
      have b453 : Bx v433 q165 t425 #[.bool x427, .slice A428 m429 c430] := (E433.far q165 b426.lt (by simp)).trans b426
      have b454 : Bx v433 q177 ty10 #[.bool b10_, .slice A10_ m10_ c10_] := (E433.far q177 b399.lt (by simp)).trans b399
      have b455 : Bx v433 q334 t363 #[.bool x365, .slice A366 m367 c368] := (E433.far q334 b400.lt (by simp)).trans b400
      have b456 : Bx v433 q348 t371 #[.bool x373, .slice A374 m375 c376] := (E433.far q348 b401.lt (by simp)).trans b401
      have f457 := f402.mono ((Mono.drew _).trans E433.mono)
      have f458 := f403.mono ((Mono.drew _).trans E433.mono)
      have f459 := f404.mono ((Mono.drew _).trans E433.mono)
      have f460 := f405.mono ((Mono.drew _).trans E433.mono)
      have f461 := f406.mono ((Mono.drew _).trans E433.mono)
      have f462 := f407.mono ((Mono.drew _).trans E433.mono)
      have f463 := f408.mono ((Mono.drew _).trans E433.mono)
      have f464 := f409.mono ((Mono.drew _).trans E433.mono)
      have f465 := f410.mono ((Mono.drew _).trans E433.mono)
      have f466 := f411.mono ((Mono.drew _).trans E433.mono)
      have f467 := f412.mono ((Mono.drew _).trans E433.mono)
      have f468 := f413.mono ((Mono.drew _).trans E433.mono)
      have f469 := f414.mono ((Mono.drew _).trans E433.mono)
      have f470 := f415.mono ((Mono.drew _).trans E433.mono)
      have f471 := f416.mono ((Mono.drew _).trans E433.mono)
      have f472 := f417.mono ((Mono.drew _).trans E433.mono)
      have f473 := f418.mono ((Mono.drew _).trans E433.mono)
      have f474 := f419.mono ((Mono.drew _).trans E433.mono)
      have f475 := f420.mono ((Mono.drew _).trans E433.mono)
      have f476 := f421.mono ((Mono.drew _).trans E433.mono)
      have f477 := f422.mono ((Mono.drew _).trans E433.mono)
      have f478 := f423.mono ((Mono.drew _).trans E433.mono)
      have f479 := f432.mono ((Mono.drew _).trans E433.mono)
      have f480 : Cz v433 (g433 0) r1 := E433.facts 0 (by decide)
      have f481 : Cz v433 (g433 1) (md x1 (fl (b.natAbs : Int) r1)) := E433.facts 1 (by decide)
      have f482 : Az N v433 (g433 2) a := E433.facts 2 (by decide)
      have f483 : Cz v433 (g433 3) ((md x1 (fl (b.natAbs : Int) r1)) * a) := E433.facts 3 (by decide)
      have f484 : Cz v433 (g433 4) (r1 - ((md x1 (fl (b.natAbs : Int) r1)) * a)) := E433.facts 4 (by decide)
      have f485 : Az N v433 (g433 5) b := E433.facts 5 (by decide)
      have f486 : Cz v433 (g433 8) (fl (r1 - ((md x1 (fl (b.natAbs : Int) r1)) * a)) b) := E433.facts 8 (by decide)
      have f487 : Cz v433 (g433 9) (md (r1 - ((md x1 (fl (b.natAbs : Int) r1)) * a)) b) := E433.facts 9 (by decide)
      have e488 : g433 10 = (.int .i64 0) := E433.facts 10 (by decide)
      have e489 : g433 15 = (.int .i64 0) := E433.facts 15 (by decide)
      obtain ⟨q490, p491, l492, o493⟩ : ∃ q, g433 11 = .pointer (some ⟨q, 0, none⟩) ∧ v379.heap.size ≤ q ∧ OkB v433 q 2 := E433.facts 11 (by decide)
      have h494 : w.heap.size ≤ q490 := Nat.le_trans HB l492
      have n495 : q7 ≠ q490 := by omega
      have n496 : q13 ≠ q490 := by omega
      have n497 : q20 ≠ q490 := by omega
      have n498 : q29 ≠ q490 := by omega
      have n499 : q39 ≠ q490 := by omega
      have n500 : q96 ≠ q490 := by omega
      have n501 : q106 ≠ q490 := by omega
      have n502 : q165 ≠ q490 := by omega
      have n503 : q177 ≠ q490 := by omega
      have n504 : q334 ≠ q490 := by omega
      have n505 : q348 ≠ q490 := by omega
      obtain ⟨q506, p507, l508, o509⟩ : ∃ q, g433 12 = .pointer (some ⟨q, 0, none⟩) ∧ v379.heap.size ≤ q ∧ OkB v433 q 2 := E433.facts 12 (by decide)
      have h510 : w.heap.size ≤ q506 := Nat.le_trans HB l508
      have n511 : q7 ≠ q506 := by omega
      have n512 : q13 ≠ q506 := by omega
      have n513 : q20 ≠ q506 := by omega
      have n514 : q29 ≠ q506 := by omega
      have n515 : q39 ≠ q506 := by omega
      have n516 : q96 ≠ q506 := by omega
      have n517 : q106 ≠ q506 := by omega
      have n518 : q165 ≠ q506 := by omega
      have n519 : q177 ≠ q506 := by omega
      have n520 : q334 ≠ q506 := by omega
      have n521 : q348 ≠ q506 := by omega
      have n522 : q490 ≠ q506 := apart_ne (E433.apart 11 12 (by decide) (by decide) (by decide) ⟨_, _, rfl⟩ ⟨_, _, rfl⟩) p491 p507
      obtain ⟨t523, x525, A526, m527, c528, e529, b524⟩ := put_info (E433.facts 13 (by decide)) p491 f486.shape
      have f530 : Cz v433 (.agg #[.bool x525, .slice A526 m527 c528]) (fl (r1 - ((md x1 (fl (b.natAbs : Int) r1)) * a)) b) := f486.at e529.symm
      obtain ⟨t531, x533, A534, m535, c536, e537, b532⟩ := put_info (E433.facts 14 (by decide)) p507 f487.shape
      have f538 : Cz v433 (.agg #[.bool x533, .slice A534 m535 c536]) (md (r1 - ((md x1 (fl (b.natAbs : Int) r1)) * a)) b) := f487.at e537.symm
      refine then_normal ?_
      refine wp_seq ?_
      have HB : w.heap.size ≤ v433.heap.size := T434.size
      refine wp_plan_any [.val (.cz r1), .val (.cz (md x1 (fl (b.natAbs : Int) r1))), .val (.cz (fl (r1 - ((md x1 (fl (b.natAbs : Int) r1)) * a)) b)), .put 4 86, .put 5 87, .put 6 88] [4, 5, 6] [q20, q29, q39] w.heap.size (by kernel_rfl) (by kernel_rfl) (by kernel_rfl) ⟨p204, b448.lt, (nin2 n38 n48), ⟨p205, b449.lt, (nin1 n49), ⟨p206, b450.lt, (by simp), trivial⟩⟩⟩ HB ?_ ?_
      · exact ⟨fun s v h => does_val rfl rfl (x_load_z ((h.same 7 rfl).trans p207) ((h.far q96 b451.lt (nin3 n103.symm n104.symm n105.symm)).trans b451)) (f462.mono ((Mono.drew _).trans h.mono)),
      fun s v h => does_val rfl rfl (x_load_z ((h.same 9 rfl).trans p209) ((h.far q165 b453.lt (nin3 n172.symm n173.symm n174.symm)).trans b453)) (f479.mono ((Mono.drew _).trans h.mono)),
      fun s v h => does_val rfl rfl (x_load_z ((h.same 17 rfl).trans p491) ((h.far q490 b524.lt (nin3 n497.symm n498.symm n499.symm)).trans b524)) (f530.mono ((Mono.drew _).trans h.mono)),
      fun s v h => does_put_z rfl rfl ((h.same 4 rfl).trans p204) (h.dep 0 rfl).shape (((Mono.drew _).trans h.mono).ok _ _ b448.ok2) h26,
      fun s v h => does_put_z rfl rfl ((h.same 5 rfl).trans p205) (h.dep 1 rfl).shape (((Mono.drew _).trans h.mono).ok _ _ b449.ok2) h35,
      fun s v h => does_put_z rfl rfl ((h.same 6 rfl).trans p206) (h.dep 2 rfl).shape (((Mono.drew _).trans h.mono).ok _ _ b450.ok2) h45, trivial⟩
      intro g539 ts v539 hts E539
      simp only [fillL, Nat.reduceAdd, List.setIfInBounds_toArray, List.set_cons_zero, List.set_cons_succ] at hts
      subst hts
      have T540 : Below w.heap.size w v539 := (below_toDrew T434).trans E539.below
      have l541 : q7 < v433.heap.size := b446.lt
      have l542 : q13 < v433.heap.size := b447.lt
      have l543 : q20 < v433.heap.size := b448.lt
      have l544 : q29 < v433.heap.size := b449.lt
      have l545 : q39 < v433.heap.size := b450.lt
      have l546 : q96 < v433.heap.size := b451.lt
      have l547 : q106 < v433.heap.size := b452.lt
      have l548 : q165 < v433.heap.size := b453.lt
      have l549 : q177 < v433.heap.size := b454.lt
      have l550 : q334 < v433.heap.size := b455.lt
      have l551 : q348 < v433.heap.size := b456.lt
      have l552 : q490 < v433.heap.size := b524.lt
      have l553 : q506 < v433.heap.size := b532.lt
      have b554 : Bx v539 q7 24 #[.bool na0, .slice A0 n0 c0] := (E539.far q7 b446.lt (nin3 n27 n36 n46)).trans b446
      have b555 : Bx v539 q13 24 #[.bool na1, .slice A1 n1 c1] := (E539.far q13 b447.lt (nin3 n28 n37 n47)).trans b447
      have b556 : Bx v539 q96 ty7 #[.bool b7_, .slice A7_ m7_ c7_] := (E539.far q96 b451.lt (nin3 n103.symm n104.symm n105.symm)).trans b451
      have b557 : Bx v539 q106 ty8 #[.bool b8_, .slice A8_ m8_ c8_] := (E539.far q106 b452.lt (nin3 n113.symm n114.symm n115.symm)).trans b452
      have b558 : Bx v539 q165 t425 #[.bool x427, .slice A428 m429 c430] := (E539.far q165 b453.lt (nin3 n172.symm n173.symm n174.symm)).trans b453
      have b559 : Bx v539 q177 ty10 #[.bool b10_, .slice A10_ m10_ c10_] := (E539.far q177 b454.lt (nin3 n184.symm n185.symm n186.symm)).trans b454
      have b560 : Bx v539 q334 t363 #[.bool x365, .slice A366 m367 c368] := (E539.far q334 b455.lt (nin3 n341.symm n342.symm n343.symm)).trans b455
      have b561 : Bx v539 q348 t371 #[.bool x373, .slice A374 m375 c376] := (E539.far q348 b456.lt (nin3 n355.symm n356.symm n357.symm)).trans b456
      have b562 : Bx v539 q490 t523 #[.bool x525, .slice A526 m527 c528] := (E539.far q490 b524.lt (nin3 n497.symm n498.symm n499.symm)).trans b524
      have b563 : Bx v539 q506 t531 #[.bool x533, .slice A534 m535 c536] := (E539.far q506 b532.lt (nin3 n513.symm n514.symm n515.symm)).trans b532
      have f564 := f457.mono ((Mono.drew _).trans E539.mono)
      have f565 := f458.mono ((Mono.drew _).trans E539.mono)
      have f566 := f459.mono ((Mono.drew _).trans E539.mono)
      have f567 := f460.mono ((Mono.drew _).trans E539.mono)
      have f568 := f461.mono ((Mono.drew _).trans E539.mono)
      have f569 := f462.mono ((Mono.drew _).trans E539.mono)
      have f570 := f463.mono ((Mono.drew _).trans E539.mono)
      have f571 := f464.mono ((Mono.drew _).trans E539.mono)
      have f572 := f465.mono ((Mono.drew _).trans E539.mono)
      have f573 := f466.mono ((Mono.drew _).trans E539.mono)
      have f574 := f467.mono ((Mono.drew _).trans E539.mono)
      have f575 := f468.mono ((Mono.drew _).trans E539.mono)
      have f576 := f469.mono ((Mono.drew _).trans E539.mono)
      have f577 := f470.mono ((Mono.drew _).trans E539.mono)
      have f578 := f471.mono ((Mono.drew _).trans E539.mono)
      have f579 := f472.mono ((Mono.drew _).trans E539.mono)
      have f580 := f473.mono ((Mono.drew _).trans E539.mono)
      have f581 := f474.mono ((Mono.drew _).trans E539.mono)
      have f582 := f475.mono ((Mono.drew _).trans E539.mono)
      have f583 := f476.mono ((Mono.drew _).trans E539.mono)
      have f584 := f477.mono ((Mono.drew _).trans E539.mono)
      have f585 := f478.mono ((Mono.drew _).trans E539.mono)
      have f586 := f479.mono ((Mono.drew _).trans E539.mono)
      have f587 := f480.mono ((Mono.drew _).trans E539.mono)
      have f588 := f481.mono ((Mono.drew _).trans E539.mono)
      have f589 := f482.mono ((Mono.drew _).trans E539.mono)
      have f590 := f483.mono ((Mono.drew _).trans E539.mono)
      have f591 := f484.mono ((Mono.drew _).trans E539.mono)
      have f592 := f485.mono ((Mono.drew _).trans E539.mono)
      have f593 := f486.mono ((Mono.drew _).trans E539.mono)
      have f594 := f487.mono ((Mono.drew _).trans E539.mono)
      have f595 := f530.mono ((Mono.drew _).trans E539.mono)
      have f596 := f538.mono ((Mono.drew _).trans E539.mono)
      have f597 : Cz v539 (g539 0) r1 := E539.facts 0 (by decide)
      have f598 : Cz v539 (g539 1) (md x1 (fl (b.natAbs : Int) r1)) := E539.facts 1 (by decide)
      have f599 : Cz v539 (g539 2) (fl (r1 - ((md x1 (fl (b.natAbs : Int) r1)) * a)) b) := E539.facts 2 (by decide)
      obtain ⟨t600, x602, A603, m604, c605, e606, b601⟩ := put_info (E539.facts 3 (by decide)) p204 f597.shape
      have f607 : Cz v539 (.agg #[.bool x602, .slice A603 m604 c605]) r1 := f597.at e606.symm
      obtain ⟨t608, x610, A611, m612, c613, e614, b609⟩ := put_info (E539.facts 4 (by decide)) p205 f598.shape
      have f615 : Cz v539 (.agg #[.bool x610, .slice A611 m612 c613]) (md x1 (fl (b.natAbs : Int) r1)) := f598.at e614.symm
      obtain ⟨t616, x618, A619, m620, c621, e622, b617⟩ := put_info (E539.facts 5 (by decide)) p206 f599.shape
      have f623 : Cz v539 (.agg #[.bool x618, .slice A619 m620 c621]) (fl (r1 - ((md x1 (fl (b.natAbs : Int) r1)) * a)) b) := f599.at e622.symm
      refine then_normal ?_
      refine wp_ret ?_
      exact bodyPost_ret (ret_ccc rfl p204 b601 p205 b609 p206 b617) rfl ⟨_, rfl, ⟨_, _, _, rfl, (by have := f607; rw [E1] at this; exact this), (by have := f615; rw [E2] at this; exact this), (by have := f623; rw [E2, E1] at this; exact this)⟩, T540⟩
    · skip
      have hr : 0 < -r1 := by have := Int.sign_neg_iff.1 (show r1.sign < 0 from of_decide_eq_true h295); omega
      obtain ⟨E1, hst, E2⟩ := bez_fin hu hr (by rw [Int.natAbs_neg]; exact hrg) (dvd_other hJ.px)
      refine wp_cond_true (e294.trans (congrArg Value.bool h295)) ?_
      have HB : w.heap.size ≤ v262.heap.size := T263.size
      refine wp_plan_any [.val (.cz r1), .val (.cz (-r1)), .val (.cz x1), .val (.cz (-x1)), .put 7 57, .put 9 59] [7, 9] [q96, q165] w.heap.size (by kernel_rfl) (by kernel_rfl) (by kernel_rfl) ⟨p207, b278.lt, (nin1 n175), ⟨p209, b280.lt, (by simp), trivial⟩⟩ HB ?_ ?_
      · exact ⟨fun s v h => does_val rfl rfl (x_load_z ((h.same 7 rfl).trans p207) ((h.held 4 7 57 _ rfl rfl rfl p207).trans b278)) (f287.mono ((Mono.drew _).trans h.mono)),
      fun s v h => does_call rfl rfl (x_call1 Try.call44) (neg_k ((h.dep 0 rfl).az (N := N) lr)),
      fun s v h => does_val rfl rfl (x_load_z ((h.same 9 rfl).trans p209) ((h.held 5 9 59 _ rfl rfl rfl p209).trans b280)) (f289.mono ((Mono.drew _).trans h.mono)),
      fun s v h => does_call rfl rfl (x_call1 Try.call44) (neg_k ((h.dep 2 rfl).az (N := N) lx)),
      fun s v h => does_put_z rfl rfl ((h.same 7 rfl).trans p207) (h.dep 1 rfl).shape (((Mono.drew _).trans h.mono).ok _ _ b278.ok2) h100,
      fun s v h => does_put_z rfl rfl ((h.same 9 rfl).trans p209) (h.dep 3 rfl).shape (((Mono.drew _).trans h.mono).ok _ _ b280.ok2) h169, trivial⟩
      intro g624 ts v624 hts E624
      simp only [fillL, Nat.reduceAdd, List.setIfInBounds_toArray, List.set_cons_zero, List.set_cons_succ] at hts
      subst hts
      have T625 : Below w.heap.size w v624 := (below_toDrew T263).trans E624.below
      have l626 : q7 < v262.heap.size := b273.lt
      have l627 : q13 < v262.heap.size := b274.lt
      have l628 : q20 < v262.heap.size := b275.lt
      have l629 : q29 < v262.heap.size := b276.lt
      have l630 : q39 < v262.heap.size := b277.lt
      have l631 : q96 < v262.heap.size := b278.lt
      have l632 : q106 < v262.heap.size := b279.lt
      have l633 : q165 < v262.heap.size := b280.lt
      have l634 : q177 < v262.heap.size := b281.lt
      have b635 : Bx v624 q7 24 #[.bool na0, .slice A0 n0 c0] := (E624.far q7 b273.lt (nin2 n101 n170)).trans b273
      have b636 : Bx v624 q13 24 #[.bool na1, .slice A1 n1 c1] := (E624.far q13 b274.lt (nin2 n102 n171)).trans b274
      have b637 : Bx v624 q20 24 #[.bool false, .slice none 0 0] := (E624.far q20 b275.lt (nin2 n103 n172)).trans b275
      have b638 : Bx v624 q29 24 #[.bool false, .slice none 0 0] := (E624.far q29 b276.lt (nin2 n104 n173)).trans b276
      have b639 : Bx v624 q39 24 #[.bool false, .slice none 0 0] := (E624.far q39 b277.lt (nin2 n105 n174)).trans b277
      have b640 : Bx v624 q106 ty8 #[.bool b8_, .slice A8_ m8_ c8_] := (E624.far q106 b279.lt (nin2 n116.symm n176)).trans b279
      have b641 : Bx v624 q177 ty10 #[.bool b10_, .slice A10_ m10_ c10_] := (E624.far q177 b281.lt (nin2 n187.symm n189.symm)).trans b281
      have f642 := f282.mono ((Mono.drew _).trans E624.mono)
      have f643 := f283.mono ((Mono.drew _).trans E624.mono)
      have f644 := f284.mono ((Mono.drew _).trans E624.mono)
      have f645 := f285.mono ((Mono.drew _).trans E624.mono)
      have f646 := f286.mono ((Mono.drew _).trans E624.mono)
      have f647 := f287.mono ((Mono.drew _).trans E624.mono)
      have f648 := f288.mono ((Mono.drew _).trans E624.mono)
      have f649 := f289.mono ((Mono.drew _).trans E624.mono)
      have f650 := f290.mono ((Mono.drew _).trans E624.mono)
      have f651 := f291.mono ((Mono.drew _).trans E624.mono)
      have f652 := f292.mono ((Mono.drew _).trans E624.mono)
      have f653 : Cz v624 (g624 0) r1 := E624.facts 0 (by decide)
      have f654 : Cz v624 (g624 1) (-r1) := E624.facts 1 (by decide)
      have f655 : Cz v624 (g624 2) x1 := E624.facts 2 (by decide)
      have f656 : Cz v624 (g624 3) (-x1) := E624.facts 3 (by decide)
      obtain ⟨t657, x659, A660, m661, c662, e663, b658⟩ := put_info (E624.facts 4 (by decide)) p207 f654.shape
      have f664 : Cz v624 (.agg #[.bool x659, .slice A660 m661 c662]) (-r1) := f654.at e663.symm
      obtain ⟨t665, x667, A668, m669, c670, e671, b666⟩ := put_info (E624.facts 5 (by decide)) p209 f656.shape
      have f672 : Cz v624 (.agg #[.bool x667, .slice A668 m669 c670]) (-x1) := f656.at e671.symm
      refine then_normal ?_
      refine wp_seq ?_
      have HB : w.heap.size ≤ v624.heap.size := T625.size
      refine wp_plan_any [.val (.az N b), .val (.cz (b.natAbs : Int)), .val (.cz (-r1)), .val (.tup3 (.cz (fl (b.natAbs : Int) (-r1))) (.cz (md (b.natAbs : Int) (-r1))) (.is (.int .i64 0))), .val (.tup3 (.cz (fl (b.natAbs : Int) (-r1))) (.cz (md (b.natAbs : Int) (-r1))) (.is (.int .i64 0))), .val (.cz (fl (b.natAbs : Int) (-r1))), .val (.cz (md (b.natAbs : Int) (-r1))), .val (.is (.int .i64 0)), .new 2 none, .new 2 none, .put 14 65, .put 15 66, .val (.is (.int .i64 0))] [] [] w.heap.size (by kernel_rfl) (by kernel_rfl) (by kernel_rfl) trivial HB ?_ ?_
      · exact ⟨fun s v h => does_val rfl rfl (x_load_z ((h.same 3 rfl).trans p203) ((h.far q13 b636.lt (by simp)).trans b636)) (f643.mono ((Mono.drew _).trans h.mono)),
      fun s v h => does_call rfl rfl (x_call1 Try.call41) (abs_k (h.dep 0 rfl)),
      fun s v h => does_val rfl rfl (x_load_z ((h.same 7 rfl).trans p207) ((h.far q96 b658.lt (by simp)).trans b658)) (f664.mono ((Mono.drew _).trans h.mono)),
      fun s v h => does_call rfl rfl (x_call2 Try.call24) (zfloor_k ((h.dep 1 rfl).az (N := N) (len_abs la1)) ((h.dep 2 rfl).az (N := N) (len_neg lr)) (by omega) (by omega) (by omega)),
      fun s v h => does_val rfl rfl (x_move) (h.dep 3 rfl),
      fun s v h => by obtain ⟨r0, r1, r2, e, f0, f1, f2⟩ := tup3_at (h.dep 4 rfl); exact does_val rfl rfl (x_ext e rfl) f0,
      fun s v h => by obtain ⟨r0, r1, r2, e, f0, f1, f2⟩ := tup3_at (h.dep 4 rfl); exact does_val rfl rfl (x_ext e rfl) f1,
      fun s v h => by obtain ⟨r0, r1, r2, e, f0, f1, f2⟩ := tup3_at (h.dep 4 rfl); exact does_val rfl rfl (x_ext e rfl) f2,
      fun s v h => does_new rfl rfl x_alloc_z (okz _ _ _ _) rfl (.inl rfl),
      fun s v h => does_new rfl rfl x_alloc_z (okz _ _ _ _) rfl (.inl rfl),
      fun s v h => by obtain ⟨q, e1, e2, e3⟩ := new_at (h.dep 8 rfl); exact does_put_z rfl rfl e1 (h.dep 5 rfl).shape e3 (Nat.le_trans HB e2),
      fun s v h => by obtain ⟨q, e1, e2, e3⟩ := new_at (h.dep 9 rfl); exact does_put_z rfl rfl e1 (h.dep 6 rfl).shape e3 (Nat.le_trans HB e2),
      fun s v h => does_val rfl rfl (x_assign) (h.dep 7 rfl), trivial⟩
      intro g673 ts v673 hts E673
      simp only [fillL, Nat.reduceAdd, List.setIfInBounds_toArray, List.set_cons_zero, List.set_cons_succ] at hts
      subst hts
      have T674 : Below w.heap.size w v673 := (below_toDrew T625).trans E673.below
      have l675 : q7 < v624.heap.size := b635.lt
      have l676 : q13 < v624.heap.size := b636.lt
      have l677 : q20 < v624.heap.size := b637.lt
      have l678 : q29 < v624.heap.size := b638.lt
      have l679 : q39 < v624.heap.size := b639.lt
      have l680 : q96 < v624.heap.size := b658.lt
      have l681 : q106 < v624.heap.size := b640.lt
      have l682 : q165 < v624.heap.size := b666.lt
      have l683 : q177 < v624.heap.size := b641.lt
      have b684 : Bx v673 q7 24 #[.bool na0, .slice A0 n0 c0] := (E673.far q7 b635.lt (by simp)).trans b635
      have b685 : Bx v673 q13 24 #[.bool na1, .slice A1 n1 c1] := (E673.far q13 b636.lt (by simp)).trans b636
      have b686 : Bx v673 q20 24 #[.bool false, .slice none 0 0] := (E673.far q20 b637.lt (by simp)).trans b637
      have b687 : Bx v673 q29 24 #[.bool false, .slice none 0 0] := (E673.far q29 b638.lt (by simp)).trans b638
      have b688 : Bx v673 q39 24 #[.bool false, .slice none 0 0] := (E673.far q39 b639.lt (by simp)).trans b639
      have b689 : Bx v673 q96 t657 #[.bool x659, .slice A660 m661 c662] := (E673.far q96 b658.lt (by simp)).trans b658
      have b690 : Bx v673 q106 ty8 #[.bool b8_, .slice A8_ m8_ c8_] := (E673.far q106 b640.lt (by simp)).trans b640
      have b691 : Bx v673 q165 t665 #[.bool x667, .slice A668 m669 c670] := (E673.far q165 b666.lt (by simp)).trans b666
      have b692 : Bx v673 q177 ty10 #[.bool b10_, .slice A10_ m10_ c10_] := (E673.far q177 b641.lt (by simp)).trans b641
      have f693 := f642.mono ((Mono.drew _).trans E673.mono)
      have f694 := f643.mono ((Mono.drew _).trans E673.mono)
      have f695 := f644.mono ((Mono.drew _).trans E673.mono)
      have f696 := f645.mono ((Mono.drew _).trans E673.mono)
      have f697 := f646.mono ((Mono.drew _).trans E673.mono)
      have f698 := f647.mono ((Mono.drew _).trans E673.mono)
      have f699 := f648.mono ((Mono.drew _).trans E673.mono)
      have f700 := f649.mono ((Mono.drew _).trans E673.mono)
      have f701 := f650.mono ((Mono.drew _).trans E673.mono)
      have f702 := f651.mono ((Mono.drew _).trans E673.mono)
      have f703 := f652.mono ((Mono.drew _).trans E673.mono)
      have f704 := f653.mono ((Mono.drew _).trans E673.mono)
      have f705 := f654.mono ((Mono.drew _).trans E673.mono)
      have f706 := f655.mono ((Mono.drew _).trans E673.mono)
      have f707 := f656.mono ((Mono.drew _).trans E673.mono)
      have f708 := f664.mono ((Mono.drew _).trans E673.mono)
      have f709 := f672.mono ((Mono.drew _).trans E673.mono)
      have f710 : Az N v673 (g673 0) b := E673.facts 0 (by decide)
      have f711 : Cz v673 (g673 1) (b.natAbs : Int) := E673.facts 1 (by decide)
      have f712 : Cz v673 (g673 2) (-r1) := E673.facts 2 (by decide)
      have f713 : Cz v673 (g673 5) (fl (b.natAbs : Int) (-r1)) := E673.facts 5 (by decide)
      have f714 : Cz v673 (g673 6) (md (b.natAbs : Int) (-r1)) := E673.facts 6 (by decide)
      have e715 : g673 7 = (.int .i64 0) := E673.facts 7 (by decide)
      have e716 : g673 12 = (.int .i64 0) := E673.facts 12 (by decide)
      obtain ⟨q717, p718, l719, o720⟩ : ∃ q, g673 8 = .pointer (some ⟨q, 0, none⟩) ∧ v624.heap.size ≤ q ∧ OkB v673 q 2 := E673.facts 8 (by decide)
      have h721 : w.heap.size ≤ q717 := Nat.le_trans HB l719
      have n722 : q7 ≠ q717 := by omega
      have n723 : q13 ≠ q717 := by omega
      have n724 : q20 ≠ q717 := by omega
      have n725 : q29 ≠ q717 := by omega
      have n726 : q39 ≠ q717 := by omega
      have n727 : q96 ≠ q717 := by omega
      have n728 : q106 ≠ q717 := by omega
      have n729 : q165 ≠ q717 := by omega
      have n730 : q177 ≠ q717 := by omega
      obtain ⟨q731, p732, l733, o734⟩ : ∃ q, g673 9 = .pointer (some ⟨q, 0, none⟩) ∧ v624.heap.size ≤ q ∧ OkB v673 q 2 := E673.facts 9 (by decide)
      have h735 : w.heap.size ≤ q731 := Nat.le_trans HB l733
      have n736 : q7 ≠ q731 := by omega
      have n737 : q13 ≠ q731 := by omega
      have n738 : q20 ≠ q731 := by omega
      have n739 : q29 ≠ q731 := by omega
      have n740 : q39 ≠ q731 := by omega
      have n741 : q96 ≠ q731 := by omega
      have n742 : q106 ≠ q731 := by omega
      have n743 : q165 ≠ q731 := by omega
      have n744 : q177 ≠ q731 := by omega
      have n745 : q717 ≠ q731 := apart_ne (E673.apart 8 9 (by decide) (by decide) (by decide) ⟨_, _, rfl⟩ ⟨_, _, rfl⟩) p718 p732
      obtain ⟨t746, x748, A749, m750, c751, e752, b747⟩ := put_info (E673.facts 10 (by decide)) p718 f713.shape
      have f753 : Cz v673 (.agg #[.bool x748, .slice A749 m750 c751]) (fl (b.natAbs : Int) (-r1)) := f713.at e752.symm
      obtain ⟨t754, x756, A757, m758, c759, e760, b755⟩ := put_info (E673.facts 11 (by decide)) p732 f714.shape
      have f761 : Cz v673 (.agg #[.bool x756, .slice A757 m758 c759]) (md (b.natAbs : Int) (-r1)) := f714.at e760.symm
      refine then_normal ?_
      refine wp_seq ?_
      have HB : w.heap.size ≤ v673.heap.size := T674.size
      refine wp_plan_seq [.val (.cz (-x1)), .val (.cz (fl (b.natAbs : Int) (-r1))), .val (.tup3 (.cz (fl (-x1) (fl (b.natAbs : Int) (-r1)))) (.cz (md (-x1) (fl (b.natAbs : Int) (-r1)))) (.is (.int .i64 0))), .val (.tup3 (.cz (fl (-x1) (fl (b.natAbs : Int) (-r1)))) (.cz (md (-x1) (fl (b.natAbs : Int) (-r1)))) (.is (.int .i64 0))), .val (.cz (fl (-x1) (fl (b.natAbs : Int) (-r1)))), .val (.cz (md (-x1) (fl (b.natAbs : Int) (-r1)))), .val (.is (.int .i64 0)), .put 9 73] [9] [q165] w.heap.size (by kernel_rfl) (by kernel_rfl) ⟨p209, b691.lt, (by simp), trivial⟩ HB ?_ ?_
      · exact ⟨fun s v h => does_val rfl rfl (x_load_z ((h.same 9 rfl).trans p209) ((h.held 7 9 73 _ rfl rfl rfl p209).trans b691)) (f709.mono h.mono),
      fun s v h => does_val rfl rfl (x_load_z ((h.same 14 rfl).trans p718) ((h.far q717 b747.lt (nin1 n729.symm)).trans b747)) (f753.mono h.mono),
      fun s v h => does_call rfl rfl (x_call2 Try.call24) (zfloor_k ((h.dep 0 rfl).az (N := N) (len_neg lx)) ((h.dep 1 rfl).az (N := (N + 1)) (fl_len (len_abs la1))) (by omega) (by omega) hst),
      fun s v h => does_val rfl rfl (x_move) (h.dep 2 rfl),
      fun s v h => by obtain ⟨r0, r1, r2, e, f0, f1, f2⟩ := tup3_at (h.dep 3 rfl); exact does_val rfl rfl (x_ext e rfl) f0,
      fun s v h => by obtain ⟨r0, r1, r2, e, f0, f1, f2⟩ := tup3_at (h.dep 3 rfl); exact does_val rfl rfl (x_ext e rfl) f1,
      fun s v h => by obtain ⟨r0, r1, r2, e, f0, f1, f2⟩ := tup3_at (h.dep 3 rfl); exact does_val rfl rfl (x_ext e rfl) f2,
      fun s v h => does_put_z rfl rfl ((h.same 9 rfl).trans p209) (h.dep 5 rfl).shape (h.mono.ok _ _ b691.ok2) h169, trivial⟩
      intro g762 ts v762 hts E762
      simp only [fillL, Nat.reduceAdd, List.setIfInBounds_toArray, List.set_cons_zero, List.set_cons_succ] at hts
      subst hts
      have T763 : Below w.heap.size w v762 := T674.trans E762.below
      have l764 : q7 < v673.heap.size := b684.lt
      have l765 : q13 < v673.heap.size := b685.lt
      have l766 : q20 < v673.heap.size := b686.lt
      have l767 : q29 < v673.heap.size := b687.lt
      have l768 : q39 < v673.heap.size := b688.lt
      have l769 : q96 < v673.heap.size := b689.lt
      have l770 : q106 < v673.heap.size := b690.lt
      have l771 : q165 < v673.heap.size := b691.lt
      have l772 : q177 < v673.heap.size := b692.lt
      have l773 : q717 < v673.heap.size := b747.lt
      have l774 : q731 < v673.heap.size := b755.lt
      have b775 : Bx v762 q7 24 #[.bool na0, .slice A0 n0 c0] := (E762.far q7 b684.lt (nin1 n170)).trans b684
      have b776 : Bx v762 q13 24 #[.bool na1, .slice A1 n1 c1] := (E762.far q13 b685.lt (nin1 n171)).trans b685
      have b777 : Bx v762 q20 24 #[.bool false, .slice none 0 0] := (E762.far q20 b686.lt (nin1 n172)).trans b686
      have b778 : Bx v762 q29 24 #[.bool false, .slice none 0 0] := (E762.far q29 b687.lt (nin1 n173)).trans b687
      have b779 : Bx v762 q39 24 #[.bool false, .slice none 0 0] := (E762.far q39 b688.lt (nin1 n174)).trans b688
      have b780 : Bx v762 q96 t657 #[.bool x659, .slice A660 m661 c662] := (E762.far q96 b689.lt (nin1 n175)).trans b689
      have b781 : Bx v762 q106 ty8 #[.bool b8_, .slice A8_ m8_ c8_] := (E762.far q106 b690.lt (nin1 n176)).trans b690
      have b782 : Bx v762 q177 ty10 #[.bool b10_, .slice A10_ m10_ c10_] := (E762.far q177 b692.lt (nin1 n189.symm)).trans b692
      have b783 : Bx v762 q717 t746 #[.bool x748, .slice A749 m750 c751] := (E762.far q717 b747.lt (nin1 n729.symm)).trans b747
      have b784 : Bx v762 q731 t754 #[.bool x756, .slice A757 m758 c759] := (E762.far q731 b755.lt (nin1 n743.symm)).trans b755
      have f785 := f693.mono E762.mono
      have f786 := f694.mono E762.mono
      have f787 := f695.mono E762.mono
      have f788 := f696.mono E762.mono
      have f789 := f697.mono E762.mono
      have f790 := f698.mono E762.mono
      have f791 := f699.mono E762.mono
      have f792 := f700.mono E762.mono
      have f793 := f701.mono E762.mono
      have f794 := f702.mono E762.mono
      have f795 := f703.mono E762.mono
      have f796 := f704.mono E762.mono
      have f797 := f705.mono E762.mono
      have f798 := f706.mono E762.mono
      have f799 := f707.mono E762.mono
      have f800 := f708.mono E762.mono
      have f801 := f709.mono E762.mono
      have f802 := f710.mono E762.mono
      have f803 := f711.mono E762.mono
      have f804 := f712.mono E762.mono
      have f805 := f713.mono E762.mono
      have f806 := f714.mono E762.mono
      have f807 := f753.mono E762.mono
      have f808 := f761.mono E762.mono
      have f809 : Cz v762 (g762 0) (-x1) := E762.facts 0 (by decide)
      have f810 : Cz v762 (g762 1) (fl (b.natAbs : Int) (-r1)) := E762.facts 1 (by decide)
      have f811 : Cz v762 (g762 4) (fl (-x1) (fl (b.natAbs : Int) (-r1))) := E762.facts 4 (by decide)
      have f812 : Cz v762 (g762 5) (md (-x1) (fl (b.natAbs : Int) (-r1))) := E762.facts 5 (by decide)
      have e813 : g762 6 = (.int .i64 0) := E762.facts 6 (by decide)
      obtain ⟨t814, x816, A817, m818, c819, e820, b815⟩ := put_info (E762.facts 7 (by decide)) p209 f812.shape
      have f821 : Cz v762 (.agg #[.bool x816, .slice A817 m818 c819]) (md (-x1) (fl (b.natAbs : Int) (-r1))) := f812.at e820.symm
      refine then_normal ?_
      refine wp_seq ?_
      have HB : w.heap.size ≤ v762.heap.size := T763.size
      refine wp_plan_any [.val (.cz (-r1)), .val (.cz (md (-x1) (fl (b.natAbs : Int) (-r1)))), .val (.az N a), .val (.cz ((md (-x1) (fl (b.natAbs : Int) (-r1))) * a)), .val (.cz ((-r1) - ((md (-x1) (fl (b.natAbs : Int) (-r1))) * a))), .val (.az N b), .val (.tup3 (.cz (fl ((-r1) - ((md (-x1) (fl (b.natAbs : Int) (-r1))) * a)) b)) (.cz (md ((-r1) - ((md (-x1) (fl (b.natAbs : Int) (-r1))) * a)) b)) (.is (.int .i64 0))), .val (.tup3 (.cz (fl ((-r1) - ((md (-x1) (fl (b.natAbs : Int) (-r1))) * a)) b)) (.cz (md ((-r1) - ((md (-x1) (fl (b.natAbs : Int) (-r1))) * a)) b)) (.is (.int .i64 0))), .val (.cz (fl ((-r1) - ((md (-x1) (fl (b.natAbs : Int) (-r1))) * a)) b)), .val (.cz (md ((-r1) - ((md (-x1) (fl (b.natAbs : Int) (-r1))) * a)) b)), .val (.is (.int .i64 0)), .new 2 none, .new 2 none, .put 17 83, .put 18 84, .val (.is (.int .i64 0))] [] [] w.heap.size (by kernel_rfl) (by kernel_rfl) (by kernel_rfl) trivial HB ?_ ?_
      · exact ⟨fun s v h => does_val rfl rfl (x_load_z ((h.same 7 rfl).trans p207) ((h.far q96 b780.lt (by simp)).trans b780)) (f800.mono ((Mono.drew _).trans h.mono)),
      fun s v h => does_val rfl rfl (x_load_z ((h.same 9 rfl).trans p209) ((h.far q165 b815.lt (by simp)).trans b815)) (f821.mono ((Mono.drew _).trans h.mono)),
      fun s v h => does_val rfl rfl (x_load_z ((h.same 2 rfl).trans p202) ((h.far q7 b775.lt (by simp)).trans b775)) (f785.mono ((Mono.drew _).trans h.mono)),
      fun s v h => does_call rfl rfl (x_call2 Try.call16) (mul_k ((h.dep 1 rfl).az (N := (N + 1)) (md_len hst (fl_len (len_abs la1)))) (h.dep 2 rfl) (by omega) (by omega)),
      fun s v h => does_call rfl rfl (x_call2 Try.call13) (sub_k ((h.dep 0 rfl).az (N := N) (len_neg lr)) ((h.dep 3 rfl).az (N := ((N + 1) + N)) (len_mul (md_len hst (fl_len (len_abs la1))) la0)) (by omega) (by omega)),
      fun s v h => does_val rfl rfl (x_load_z ((h.same 3 rfl).trans p203) ((h.far q13 b776.lt (by simp)).trans b776)) (f786.mono ((Mono.drew _).trans h.mono)),
      fun s v h => does_call rfl rfl (x_call2 Try.call24) (zfloor_k ((h.dep 4 rfl).az (N := (max N ((N + 1) + N) + 1)) (len_sub' (n := (max N ((N + 1) + N) + 1)) (len_neg lr) (len_mul (md_len hst (fl_len (len_abs la1))) la0) (by omega) (by omega))) (h.dep 5 rfl) (by omega) (by omega) hu),
      fun s v h => does_val rfl rfl (x_move) (h.dep 6 rfl),
      fun s v h => by obtain ⟨r0, r1, r2, e, f0, f1, f2⟩ := tup3_at (h.dep 7 rfl); exact does_val rfl rfl (x_ext e rfl) f0,
      fun s v h => by obtain ⟨r0, r1, r2, e, f0, f1, f2⟩ := tup3_at (h.dep 7 rfl); exact does_val rfl rfl (x_ext e rfl) f1,
      fun s v h => by obtain ⟨r0, r1, r2, e, f0, f1, f2⟩ := tup3_at (h.dep 7 rfl); exact does_val rfl rfl (x_ext e rfl) f2,
      fun s v h => does_new rfl rfl x_alloc_z (okz _ _ _ _) rfl (.inl rfl),
      fun s v h => does_new rfl rfl x_alloc_z (okz _ _ _ _) rfl (.inl rfl),
      fun s v h => by obtain ⟨q, e1, e2, e3⟩ := new_at (h.dep 11 rfl); exact does_put_z rfl rfl e1 (h.dep 8 rfl).shape e3 (Nat.le_trans HB e2),
      fun s v h => by obtain ⟨q, e1, e2, e3⟩ := new_at (h.dep 12 rfl); exact does_put_z rfl rfl e1 (h.dep 9 rfl).shape e3 (Nat.le_trans HB e2),
      fun s v h => does_val rfl rfl (x_assign) (h.dep 10 rfl), trivial⟩
      intro g822 ts v822 hts E822
      simp only [fillL, Nat.reduceAdd, List.setIfInBounds_toArray, List.set_cons_zero, List.set_cons_succ] at hts
      subst hts
      have T823 : Below w.heap.size w v822 := (below_toDrew T763).trans E822.below
      have l824 : q7 < v762.heap.size := b775.lt
      have l825 : q13 < v762.heap.size := b776.lt
      have l826 : q20 < v762.heap.size := b777.lt
      have l827 : q29 < v762.heap.size := b778.lt
      have l828 : q39 < v762.heap.size := b779.lt
      have l829 : q96 < v762.heap.size := b780.lt
      have l830 : q106 < v762.heap.size := b781.lt
      have l831 : q165 < v762.heap.size := b815.lt
      have l832 : q177 < v762.heap.size := b782.lt
      have l833 : q717 < v762.heap.size := b783.lt
      have l834 : q731 < v762.heap.size := b784.lt
      have b835 : Bx v822 q7 24 #[.bool na0, .slice A0 n0 c0] := (E822.far q7 b775.lt (by simp)).trans b775
      have b836 : Bx v822 q13 24 #[.bool na1, .slice A1 n1 c1] := (E822.far q13 b776.lt (by simp)).trans b776
      have b837 : Bx v822 q20 24 #[.bool false, .slice none 0 0] := (E822.far q20 b777.lt (by simp)).trans b777
      have b838 : Bx v822 q29 24 #[.bool false, .slice none 0 0] := (E822.far q29 b778.lt (by simp)).trans b778
      have b839 : Bx v822 q39 24 #[.bool false, .slice none 0 0] := (E822.far q39 b779.lt (by simp)).trans b779
      have b840 : Bx v822 q96 t657 #[.bool x659, .slice A660 m661 c662] := (E822.far q96 b780.lt (by simp)).trans b780
      have b841 : Bx v822 q106 ty8 #[.bool b8_, .slice A8_ m8_ c8_] := (E822.far q106 b781.lt (by simp)).trans b781
      have b842 : Bx v822 q165 t814 #[.bool x816, .slice A817 m818 c819] := (E822.far q165 b815.lt (by simp)).trans b815
      have b843 : Bx v822 q177 ty10 #[.bool b10_, .slice A10_ m10_ c10_] := (E822.far q177 b782.lt (by simp)).trans b782
      have b844 : Bx v822 q717 t746 #[.bool x748, .slice A749 m750 c751] := (E822.far q717 b783.lt (by simp)).trans b783
      have b845 : Bx v822 q731 t754 #[.bool x756, .slice A757 m758 c759] := (E822.far q731 b784.lt (by simp)).trans b784
      have f846 := f785.mono ((Mono.drew _).trans E822.mono)
      have f847 := f786.mono ((Mono.drew _).trans E822.mono)
      have f848 := f787.mono ((Mono.drew _).trans E822.mono)
      have f849 := f788.mono ((Mono.drew _).trans E822.mono)
      have f850 := f789.mono ((Mono.drew _).trans E822.mono)
      have f851 := f790.mono ((Mono.drew _).trans E822.mono)
      have f852 := f791.mono ((Mono.drew _).trans E822.mono)
      have f853 := f792.mono ((Mono.drew _).trans E822.mono)
      have f854 := f793.mono ((Mono.drew _).trans E822.mono)
      have f855 := f794.mono ((Mono.drew _).trans E822.mono)
      have f856 := f795.mono ((Mono.drew _).trans E822.mono)
      have f857 := f796.mono ((Mono.drew _).trans E822.mono)
      have f858 := f797.mono ((Mono.drew _).trans E822.mono)
      have f859 := f798.mono ((Mono.drew _).trans E822.mono)
      have f860 := f799.mono ((Mono.drew _).trans E822.mono)
      have f861 := f800.mono ((Mono.drew _).trans E822.mono)
      have f862 := f801.mono ((Mono.drew _).trans E822.mono)
      have f863 := f802.mono ((Mono.drew _).trans E822.mono)
      have f864 := f803.mono ((Mono.drew _).trans E822.mono)
      have f865 := f804.mono ((Mono.drew _).trans E822.mono)
      have f866 := f805.mono ((Mono.drew _).trans E822.mono)
      have f867 := f806.mono ((Mono.drew _).trans E822.mono)
      have f868 := f807.mono ((Mono.drew _).trans E822.mono)
      have f869 := f808.mono ((Mono.drew _).trans E822.mono)
      have f870 := f809.mono ((Mono.drew _).trans E822.mono)
      have f871 := f810.mono ((Mono.drew _).trans E822.mono)
      have f872 := f811.mono ((Mono.drew _).trans E822.mono)
      have f873 := f812.mono ((Mono.drew _).trans E822.mono)
      have f874 := f821.mono ((Mono.drew _).trans E822.mono)
      have f875 : Cz v822 (g822 0) (-r1) := E822.facts 0 (by decide)
      have f876 : Cz v822 (g822 1) (md (-x1) (fl (b.natAbs : Int) (-r1))) := E822.facts 1 (by decide)
      have f877 : Az N v822 (g822 2) a := E822.facts 2 (by decide)
      have f878 : Cz v822 (g822 3) ((md (-x1) (fl (b.natAbs : Int) (-r1))) * a) := E822.facts 3 (by decide)
      have f879 : Cz v822 (g822 4) ((-r1) - ((md (-x1) (fl (b.natAbs : Int) (-r1))) * a)) := E822.facts 4 (by decide)
      have f880 : Az N v822 (g822 5) b := E822.facts 5 (by decide)
      have f881 : Cz v822 (g822 8) (fl ((-r1) - ((md (-x1) (fl (b.natAbs : Int) (-r1))) * a)) b) := E822.facts 8 (by decide)
      have f882 : Cz v822 (g822 9) (md ((-r1) - ((md (-x1) (fl (b.natAbs : Int) (-r1))) * a)) b) := E822.facts 9 (by decide)
      have e883 : g822 10 = (.int .i64 0) := E822.facts 10 (by decide)
      have e884 : g822 15 = (.int .i64 0) := E822.facts 15 (by decide)
      obtain ⟨q885, p886, l887, o888⟩ : ∃ q, g822 11 = .pointer (some ⟨q, 0, none⟩) ∧ v762.heap.size ≤ q ∧ OkB v822 q 2 := E822.facts 11 (by decide)
      have h889 : w.heap.size ≤ q885 := Nat.le_trans HB l887
      have n890 : q7 ≠ q885 := by omega
      have n891 : q13 ≠ q885 := by omega
      have n892 : q20 ≠ q885 := by omega
      have n893 : q29 ≠ q885 := by omega
      have n894 : q39 ≠ q885 := by omega
      have n895 : q96 ≠ q885 := by omega
      have n896 : q106 ≠ q885 := by omega
      have n897 : q165 ≠ q885 := by omega
      have n898 : q177 ≠ q885 := by omega
      have n899 : q717 ≠ q885 := by omega
      have n900 : q731 ≠ q885 := by omega
      obtain ⟨q901, p902, l903, o904⟩ : ∃ q, g822 12 = .pointer (some ⟨q, 0, none⟩) ∧ v762.heap.size ≤ q ∧ OkB v822 q 2 := E822.facts 12 (by decide)
      have h905 : w.heap.size ≤ q901 := Nat.le_trans HB l903
      have n906 : q7 ≠ q901 := by omega
      have n907 : q13 ≠ q901 := by omega
      have n908 : q20 ≠ q901 := by omega
      have n909 : q29 ≠ q901 := by omega
      have n910 : q39 ≠ q901 := by omega
      have n911 : q96 ≠ q901 := by omega
      have n912 : q106 ≠ q901 := by omega
      have n913 : q165 ≠ q901 := by omega
      have n914 : q177 ≠ q901 := by omega
      have n915 : q717 ≠ q901 := by omega
      have n916 : q731 ≠ q901 := by omega
      have n917 : q885 ≠ q901 := apart_ne (E822.apart 11 12 (by decide) (by decide) (by decide) ⟨_, _, rfl⟩ ⟨_, _, rfl⟩) p886 p902
      obtain ⟨t918, x920, A921, m922, c923, e924, b919⟩ := put_info (E822.facts 13 (by decide)) p886 f881.shape
      have f925 : Cz v822 (.agg #[.bool x920, .slice A921 m922 c923]) (fl ((-r1) - ((md (-x1) (fl (b.natAbs : Int) (-r1))) * a)) b) := f881.at e924.symm
      obtain ⟨t926, x928, A929, m930, c931, e932, b927⟩ := put_info (E822.facts 14 (by decide)) p902 f882.shape
      have f933 : Cz v822 (.agg #[.bool x928, .slice A929 m930 c931]) (md ((-r1) - ((md (-x1) (fl (b.natAbs : Int) (-r1))) * a)) b) := f882.at e932.symm
      refine then_normal ?_
      refine wp_seq ?_
      have HB : w.heap.size ≤ v822.heap.size := T823.size
      refine wp_plan_any [.val (.cz (-r1)), .val (.cz (md (-x1) (fl (b.natAbs : Int) (-r1)))), .val (.cz (fl ((-r1) - ((md (-x1) (fl (b.natAbs : Int) (-r1))) * a)) b)), .put 4 86, .put 5 87, .put 6 88] [4, 5, 6] [q20, q29, q39] w.heap.size (by kernel_rfl) (by kernel_rfl) (by kernel_rfl) ⟨p204, b837.lt, (nin2 n38 n48), ⟨p205, b838.lt, (nin1 n49), ⟨p206, b839.lt, (by simp), trivial⟩⟩⟩ HB ?_ ?_
      · exact ⟨fun s v h => does_val rfl rfl (x_load_z ((h.same 7 rfl).trans p207) ((h.far q96 b840.lt (nin3 n103.symm n104.symm n105.symm)).trans b840)) (f861.mono ((Mono.drew _).trans h.mono)),
      fun s v h => does_val rfl rfl (x_load_z ((h.same 9 rfl).trans p209) ((h.far q165 b842.lt (nin3 n172.symm n173.symm n174.symm)).trans b842)) (f874.mono ((Mono.drew _).trans h.mono)),
      fun s v h => does_val rfl rfl (x_load_z ((h.same 17 rfl).trans p886) ((h.far q885 b919.lt (nin3 n892.symm n893.symm n894.symm)).trans b919)) (f925.mono ((Mono.drew _).trans h.mono)),
      fun s v h => does_put_z rfl rfl ((h.same 4 rfl).trans p204) (h.dep 0 rfl).shape (((Mono.drew _).trans h.mono).ok _ _ b837.ok2) h26,
      fun s v h => does_put_z rfl rfl ((h.same 5 rfl).trans p205) (h.dep 1 rfl).shape (((Mono.drew _).trans h.mono).ok _ _ b838.ok2) h35,
      fun s v h => does_put_z rfl rfl ((h.same 6 rfl).trans p206) (h.dep 2 rfl).shape (((Mono.drew _).trans h.mono).ok _ _ b839.ok2) h45, trivial⟩
      intro g934 ts v934 hts E934
      simp only [fillL, Nat.reduceAdd, List.setIfInBounds_toArray, List.set_cons_zero, List.set_cons_succ] at hts
      subst hts
      have T935 : Below w.heap.size w v934 := (below_toDrew T823).trans E934.below
      have l936 : q7 < v822.heap.size := b835.lt
      have l937 : q13 < v822.heap.size := b836.lt
      have l938 : q20 < v822.heap.size := b837.lt
      have l939 : q29 < v822.heap.size := b838.lt
      have l940 : q39 < v822.heap.size := b839.lt
      have l941 : q96 < v822.heap.size := b840.lt
      have l942 : q106 < v822.heap.size := b841.lt
      have l943 : q165 < v822.heap.size := b842.lt
      have l944 : q177 < v822.heap.size := b843.lt
      have l945 : q717 < v822.heap.size := b844.lt
      have l946 : q731 < v822.heap.size := b845.lt
      have l947 : q885 < v822.heap.size := b919.lt
      have l948 : q901 < v822.heap.size := b927.lt
      have b949 : Bx v934 q7 24 #[.bool na0, .slice A0 n0 c0] := (E934.far q7 b835.lt (nin3 n27 n36 n46)).trans b835
      have b950 : Bx v934 q13 24 #[.bool na1, .slice A1 n1 c1] := (E934.far q13 b836.lt (nin3 n28 n37 n47)).trans b836
      have b951 : Bx v934 q96 t657 #[.bool x659, .slice A660 m661 c662] := (E934.far q96 b840.lt (nin3 n103.symm n104.symm n105.symm)).trans b840
      have b952 : Bx v934 q106 ty8 #[.bool b8_, .slice A8_ m8_ c8_] := (E934.far q106 b841.lt (nin3 n113.symm n114.symm n115.symm)).trans b841
      have b953 : Bx v934 q165 t814 #[.bool x816, .slice A817 m818 c819] := (E934.far q165 b842.lt (nin3 n172.symm n173.symm n174.symm)).trans b842
      have b954 : Bx v934 q177 ty10 #[.bool b10_, .slice A10_ m10_ c10_] := (E934.far q177 b843.lt (nin3 n184.symm n185.symm n186.symm)).trans b843
      have b955 : Bx v934 q717 t746 #[.bool x748, .slice A749 m750 c751] := (E934.far q717 b844.lt (nin3 n724.symm n725.symm n726.symm)).trans b844
      have b956 : Bx v934 q731 t754 #[.bool x756, .slice A757 m758 c759] := (E934.far q731 b845.lt (nin3 n738.symm n739.symm n740.symm)).trans b845
      have b957 : Bx v934 q885 t918 #[.bool x920, .slice A921 m922 c923] := (E934.far q885 b919.lt (nin3 n892.symm n893.symm n894.symm)).trans b919
      have b958 : Bx v934 q901 t926 #[.bool x928, .slice A929 m930 c931] := (E934.far q901 b927.lt (nin3 n908.symm n909.symm n910.symm)).trans b927
      have f959 := f846.mono ((Mono.drew _).trans E934.mono)
      have f960 := f847.mono ((Mono.drew _).trans E934.mono)
      have f961 := f848.mono ((Mono.drew _).trans E934.mono)
      have f962 := f849.mono ((Mono.drew _).trans E934.mono)
      have f963 := f850.mono ((Mono.drew _).trans E934.mono)
      have f964 := f851.mono ((Mono.drew _).trans E934.mono)
      have f965 := f852.mono ((Mono.drew _).trans E934.mono)
      have f966 := f853.mono ((Mono.drew _).trans E934.mono)
      have f967 := f854.mono ((Mono.drew _).trans E934.mono)
      have f968 := f855.mono ((Mono.drew _).trans E934.mono)
      have f969 := f856.mono ((Mono.drew _).trans E934.mono)
      have f970 := f857.mono ((Mono.drew _).trans E934.mono)
      have f971 := f858.mono ((Mono.drew _).trans E934.mono)
      have f972 := f859.mono ((Mono.drew _).trans E934.mono)
      have f973 := f860.mono ((Mono.drew _).trans E934.mono)
      have f974 := f861.mono ((Mono.drew _).trans E934.mono)
      have f975 := f862.mono ((Mono.drew _).trans E934.mono)
      have f976 := f863.mono ((Mono.drew _).trans E934.mono)
      have f977 := f864.mono ((Mono.drew _).trans E934.mono)
      have f978 := f865.mono ((Mono.drew _).trans E934.mono)
      have f979 := f866.mono ((Mono.drew _).trans E934.mono)
      have f980 := f867.mono ((Mono.drew _).trans E934.mono)
      have f981 := f868.mono ((Mono.drew _).trans E934.mono)
      have f982 := f869.mono ((Mono.drew _).trans E934.mono)
      have f983 := f870.mono ((Mono.drew _).trans E934.mono)
      have f984 := f871.mono ((Mono.drew _).trans E934.mono)
      have f985 := f872.mono ((Mono.drew _).trans E934.mono)
      have f986 := f873.mono ((Mono.drew _).trans E934.mono)
      have f987 := f874.mono ((Mono.drew _).trans E934.mono)
      have f988 := f875.mono ((Mono.drew _).trans E934.mono)
      have f989 := f876.mono ((Mono.drew _).trans E934.mono)
      have f990 := f877.mono ((Mono.drew _).trans E934.mono)
      have f991 := f878.mono ((Mono.drew _).trans E934.mono)
      have f992 := f879.mono ((Mono.drew _).trans E934.mono)
      have f993 := f880.mono ((Mono.drew _).trans E934.mono)
      have f994 := f881.mono ((Mono.drew _).trans E934.mono)
      have f995 := f882.mono ((Mono.drew _).trans E934.mono)
      have f996 := f925.mono ((Mono.drew _).trans E934.mono)
      have f997 := f933.mono ((Mono.drew _).trans E934.mono)
      have f998 : Cz v934 (g934 0) (-r1) := E934.facts 0 (by decide)
      have f999 : Cz v934 (g934 1) (md (-x1) (fl (b.natAbs : Int) (-r1))) := E934.facts 1 (by decide)
      have f1000 : Cz v934 (g934 2) (fl ((-r1) - ((md (-x1) (fl (b.natAbs : Int) (-r1))) * a)) b) := E934.facts 2 (by decide)
      obtain ⟨t1001, x1003, A1004, m1005, c1006, e1007, b1002⟩ := put_info (E934.facts 3 (by decide)) p204 f998.shape
      have f1008 : Cz v934 (.agg #[.bool x1003, .slice A1004 m1005 c1006]) (-r1) := f998.at e1007.symm
      obtain ⟨t1009, x1011, A1012, m1013, c1014, e1015, b1010⟩ := put_info (E934.facts 4 (by decide)) p205 f999.shape
      have f1016 : Cz v934 (.agg #[.bool x1011, .slice A1012 m1013 c1014]) (md (-x1) (fl (b.natAbs : Int) (-r1))) := f999.at e1015.symm
      obtain ⟨t1017, x1019, A1020, m1021, c1022, e1023, b1018⟩ := put_info (E934.facts 5 (by decide)) p206 f1000.shape
      have f1024 : Cz v934 (.agg #[.bool x1019, .slice A1020 m1021 c1022]) (fl ((-r1) - ((md (-x1) (fl (b.natAbs : Int) (-r1))) * a)) b) := f1000.at e1023.symm
      refine then_normal ?_
      refine wp_ret ?_
      exact bodyPost_ret (ret_ccc rfl p204 b1002 p205 b1010 p206 b1018) rfl ⟨_, rfl, ⟨_, _, _, rfl, (by have := f1008; rw [E1] at this; exact this), (by have := f1016; rw [E2] at this; exact this), (by have := f1024; rw [E2, E1] at this; exact this)⟩, T935⟩
  · skip
    have d0 : (s1.sign == 0) = false := by
      cases h : (s1.sign == 0) with
      | false => rfl
      | true => exact absurd (sign_eq_zero.1 h) hs
    refine wp_seq ?_
    refine wp_seq ?_
    have HB : w.heap.size ≤ v201.heap.size := T211.size
    refine wp_plan_seq [.val (.cz s1), .val (.is (.int .i64 s1.sign)), .val (.is (.bool true))] [] [] w.heap.size (by kernel_rfl) (by kernel_rfl) trivial HB ?_ ?_
    · exact ⟨fun s v h => does_val rfl rfl (x_load_z ((h.same 8 rfl).trans p208) ((h.far q106 b224.lt (by simp)).trans b224)) (f225.mono h.mono),
      fun s v h => does_call rfl rfl (x_call1 Try.call39) (sign_k ((h.dep 0 rfl).az (N := N) ls)),
      fun s v h => does_val rfl rfl (x_neq_int (h.dep 1 rfl) rfl) (congrArg (fun x => Value.bool (!x)) d0), trivial⟩
    intro g1025 ts v1025 hts E1025
    simp only [fillL, Nat.reduceAdd, List.setIfInBounds_toArray, List.set_cons_zero, List.set_cons_succ] at hts
    subst hts
    have T1026 : Below w.heap.size w v1025 := T211.trans E1025.below
    have l1027 : q7 < v201.heap.size := b212.lt
    have l1028 : q13 < v201.heap.size := b214.lt
    have l1029 : q20 < v201.heap.size := b216.lt
    have l1030 : q29 < v201.heap.size := b218.lt
    have l1031 : q39 < v201.heap.size := b220.lt
    have l1032 : q96 < v201.heap.size := b222.lt
    have l1033 : q106 < v201.heap.size := b224.lt
    have l1034 : q165 < v201.heap.size := b226.lt
    have l1035 : q177 < v201.heap.size := b228.lt
    have b1036 : Bx v1025 q7 24 #[.bool na0, .slice A0 n0 c0] := (E1025.far q7 b212.lt (by simp)).trans b212
    have b1037 : Bx v1025 q13 24 #[.bool na1, .slice A1 n1 c1] := (E1025.far q13 b214.lt (by simp)).trans b214
    have b1038 : Bx v1025 q20 24 #[.bool false, .slice none 0 0] := (E1025.far q20 b216.lt (by simp)).trans b216
    have b1039 : Bx v1025 q29 24 #[.bool false, .slice none 0 0] := (E1025.far q29 b218.lt (by simp)).trans b218
    have b1040 : Bx v1025 q39 24 #[.bool false, .slice none 0 0] := (E1025.far q39 b220.lt (by simp)).trans b220
    have b1041 : Bx v1025 q96 ty7 #[.bool b7_, .slice A7_ m7_ c7_] := (E1025.far q96 b222.lt (by simp)).trans b222
    have b1042 : Bx v1025 q106 ty8 #[.bool b8_, .slice A8_ m8_ c8_] := (E1025.far q106 b224.lt (by simp)).trans b224
    have b1043 : Bx v1025 q165 ty9 #[.bool b9_, .slice A9_ m9_ c9_] := (E1025.far q165 b226.lt (by simp)).trans b226
    have b1044 : Bx v1025 q177 ty10 #[.bool b10_, .slice A10_ m10_ c10_] := (E1025.far q177 b228.lt (by simp)).trans b228
    have f1045 := f213.mono E1025.mono
    have f1046 := f215.mono E1025.mono
    have f1047 := f217.mono E1025.mono
    have f1048 := f219.mono E1025.mono
    have f1049 := f221.mono E1025.mono
    have f1050 := f223.mono E1025.mono
    have f1051 := f225.mono E1025.mono
    have f1052 := f227.mono E1025.mono
    have f1053 := f229.mono E1025.mono
    have f1054 : Cz v1025 (g1025 0) s1 := E1025.facts 0 (by decide)
    have e1055 : g1025 1 = (.int .i64 s1.sign) := E1025.facts 1 (by decide)
    have e1056 : g1025 2 = (.bool true) := E1025.facts 2 (by decide)
    refine then_normal ?_
    refine wp_cond_true e1056 ?_
    refine wp_skip ?_
    refine then_normal ?_
    refine wp_block ?_
    refine wp_seq ?_
    have HB : w.heap.size ≤ v1025.heap.size := T1026.size
    refine wp_plan_seq [.val (.cz r1), .val (.cz s1), .val (.tup3 (.cz (fl r1 s1)) (.cz (md r1 s1)) (.is (.int .i64 0))), .val (.tup3 (.cz (fl r1 s1)) (.cz (md r1 s1)) (.is (.int .i64 0))), .val (.cz (fl r1 s1)), .val (.cz (md r1 s1)), .val (.is (.int .i64 0)), .new 2 none, .new 2 none, .put 11 42, .put 12 43, .val (.is (.int .i64 0))] [] [] w.heap.size (by kernel_rfl) (by kernel_rfl) trivial HB ?_ ?_
    · exact ⟨fun s v h => does_val rfl rfl (x_load_z ((h.same 7 rfl).trans p207) ((h.far q96 b1041.lt (by simp)).trans b1041)) (f1050.mono h.mono),
      fun s v h => does_val rfl rfl (x_load_z ((h.same 8 rfl).trans p208) ((h.far q106 b1042.lt (by simp)).trans b1042)) (f1051.mono h.mono),
      fun s v h => does_call rfl rfl (x_call2 Try.call24) (zfloor_k ((h.dep 0 rfl).az (N := N) lr) ((h.dep 1 rfl).az (N := N) ls) (by omega) (by omega) hs),
      fun s v h => does_val rfl rfl (x_move) (h.dep 2 rfl),
      fun s v h => by obtain ⟨r0, r1, r2, e, f0, f1, f2⟩ := tup3_at (h.dep 3 rfl); exact does_val rfl rfl (x_ext e rfl) f0,
      fun s v h => by obtain ⟨r0, r1, r2, e, f0, f1, f2⟩ := tup3_at (h.dep 3 rfl); exact does_val rfl rfl (x_ext e rfl) f1,
      fun s v h => by obtain ⟨r0, r1, r2, e, f0, f1, f2⟩ := tup3_at (h.dep 3 rfl); exact does_val rfl rfl (x_ext e rfl) f2,
      fun s v h => does_new rfl rfl x_alloc_z (okz _ _ _ _) rfl (.inl rfl),
      fun s v h => does_new rfl rfl x_alloc_z (okz _ _ _ _) rfl (.inl rfl),
      fun s v h => by obtain ⟨q, e1, e2, e3⟩ := new_at (h.dep 7 rfl); exact does_put_z rfl rfl e1 (h.dep 4 rfl).shape e3 (Nat.le_trans HB e2),
      fun s v h => by obtain ⟨q, e1, e2, e3⟩ := new_at (h.dep 8 rfl); exact does_put_z rfl rfl e1 (h.dep 5 rfl).shape e3 (Nat.le_trans HB e2),
      fun s v h => does_val rfl rfl (x_assign) (h.dep 6 rfl), trivial⟩
    intro g1057 ts v1057 hts E1057
    simp only [fillL, Nat.reduceAdd, List.setIfInBounds_toArray, List.set_cons_zero, List.set_cons_succ] at hts
    subst hts
    have T1058 : Below w.heap.size w v1057 := T1026.trans E1057.below
    have l1059 : q7 < v1025.heap.size := b1036.lt
    have l1060 : q13 < v1025.heap.size := b1037.lt
    have l1061 : q20 < v1025.heap.size := b1038.lt
    have l1062 : q29 < v1025.heap.size := b1039.lt
    have l1063 : q39 < v1025.heap.size := b1040.lt
    have l1064 : q96 < v1025.heap.size := b1041.lt
    have l1065 : q106 < v1025.heap.size := b1042.lt
    have l1066 : q165 < v1025.heap.size := b1043.lt
    have l1067 : q177 < v1025.heap.size := b1044.lt
    have b1068 : Bx v1057 q7 24 #[.bool na0, .slice A0 n0 c0] := (E1057.far q7 b1036.lt (by simp)).trans b1036
    have b1069 : Bx v1057 q13 24 #[.bool na1, .slice A1 n1 c1] := (E1057.far q13 b1037.lt (by simp)).trans b1037
    have b1070 : Bx v1057 q20 24 #[.bool false, .slice none 0 0] := (E1057.far q20 b1038.lt (by simp)).trans b1038
    have b1071 : Bx v1057 q29 24 #[.bool false, .slice none 0 0] := (E1057.far q29 b1039.lt (by simp)).trans b1039
    have b1072 : Bx v1057 q39 24 #[.bool false, .slice none 0 0] := (E1057.far q39 b1040.lt (by simp)).trans b1040
    have b1073 : Bx v1057 q96 ty7 #[.bool b7_, .slice A7_ m7_ c7_] := (E1057.far q96 b1041.lt (by simp)).trans b1041
    have b1074 : Bx v1057 q106 ty8 #[.bool b8_, .slice A8_ m8_ c8_] := (E1057.far q106 b1042.lt (by simp)).trans b1042
    have b1075 : Bx v1057 q165 ty9 #[.bool b9_, .slice A9_ m9_ c9_] := (E1057.far q165 b1043.lt (by simp)).trans b1043
    have b1076 : Bx v1057 q177 ty10 #[.bool b10_, .slice A10_ m10_ c10_] := (E1057.far q177 b1044.lt (by simp)).trans b1044
    have f1077 := f1045.mono E1057.mono
    have f1078 := f1046.mono E1057.mono
    have f1079 := f1047.mono E1057.mono
    have f1080 := f1048.mono E1057.mono
    have f1081 := f1049.mono E1057.mono
    have f1082 := f1050.mono E1057.mono
    have f1083 := f1051.mono E1057.mono
    have f1084 := f1052.mono E1057.mono
    have f1085 := f1053.mono E1057.mono
    have f1086 := f1054.mono E1057.mono
    have f1087 : Cz v1057 (g1057 0) r1 := E1057.facts 0 (by decide)
    have f1088 : Cz v1057 (g1057 1) s1 := E1057.facts 1 (by decide)
    have f1089 : Cz v1057 (g1057 4) (fl r1 s1) := E1057.facts 4 (by decide)
    have f1090 : Cz v1057 (g1057 5) (md r1 s1) := E1057.facts 5 (by decide)
    have e1091 : g1057 6 = (.int .i64 0) := E1057.facts 6 (by decide)
    have e1092 : g1057 11 = (.int .i64 0) := E1057.facts 11 (by decide)
    obtain ⟨q1093, p1094, l1095, o1096⟩ : ∃ q, g1057 7 = .pointer (some ⟨q, 0, none⟩) ∧ v1025.heap.size ≤ q ∧ OkB v1057 q 2 := E1057.facts 7 (by decide)
    have h1097 : w.heap.size ≤ q1093 := Nat.le_trans HB l1095
    have n1098 : q7 ≠ q1093 := by omega
    have n1099 : q13 ≠ q1093 := by omega
    have n1100 : q20 ≠ q1093 := by omega
    have n1101 : q29 ≠ q1093 := by omega
    have n1102 : q39 ≠ q1093 := by omega
    have n1103 : q96 ≠ q1093 := by omega
    have n1104 : q106 ≠ q1093 := by omega
    have n1105 : q165 ≠ q1093 := by omega
    have n1106 : q177 ≠ q1093 := by omega
    obtain ⟨q1107, p1108, l1109, o1110⟩ : ∃ q, g1057 8 = .pointer (some ⟨q, 0, none⟩) ∧ v1025.heap.size ≤ q ∧ OkB v1057 q 2 := E1057.facts 8 (by decide)
    have h1111 : w.heap.size ≤ q1107 := Nat.le_trans HB l1109
    have n1112 : q7 ≠ q1107 := by omega
    have n1113 : q13 ≠ q1107 := by omega
    have n1114 : q20 ≠ q1107 := by omega
    have n1115 : q29 ≠ q1107 := by omega
    have n1116 : q39 ≠ q1107 := by omega
    have n1117 : q96 ≠ q1107 := by omega
    have n1118 : q106 ≠ q1107 := by omega
    have n1119 : q165 ≠ q1107 := by omega
    have n1120 : q177 ≠ q1107 := by omega
    have n1121 : q1093 ≠ q1107 := apart_ne (E1057.apart 7 8 (by decide) (by decide) (by decide) ⟨_, _, rfl⟩ ⟨_, _, rfl⟩) p1094 p1108
    obtain ⟨t1122, x1124, A1125, m1126, c1127, e1128, b1123⟩ := put_info (E1057.facts 9 (by decide)) p1094 f1089.shape
    have f1129 : Cz v1057 (.agg #[.bool x1124, .slice A1125 m1126 c1127]) (fl r1 s1) := f1089.at e1128.symm
    obtain ⟨t1130, x1132, A1133, m1134, c1135, e1136, b1131⟩ := put_info (E1057.facts 10 (by decide)) p1108 f1090.shape
    have f1137 : Cz v1057 (.agg #[.bool x1132, .slice A1133 m1134 c1135]) (md r1 s1) := f1090.at e1136.symm
    refine then_normal ?_
    refine wp_seq ?_
    have HB : w.heap.size ≤ v1057.heap.size := T1058.size
    refine wp_plan_any [.val (.cz s1), .val (.cz (md r1 s1)), .put 7 45, .put 8 46] [7, 8] [q96, q106] w.heap.size (by kernel_rfl) (by kernel_rfl) (by kernel_rfl) ⟨p207, b1073.lt, (nin1 n116), ⟨p208, b1074.lt, (by simp), trivial⟩⟩ HB ?_ ?_
    · exact ⟨fun s v h => does_val rfl rfl (x_load_z ((h.same 8 rfl).trans p208) ((h.held 3 8 46 _ rfl rfl rfl p208).trans b1074)) (f1083.mono ((Mono.drew _).trans h.mono)),
      fun s v h => does_val rfl rfl (x_load_z ((h.same 12 rfl).trans p1108) ((h.far q1107 b1131.lt (nin2 n1117.symm n1118.symm)).trans b1131)) (f1137.mono ((Mono.drew _).trans h.mono)),
      fun s v h => does_put_z rfl rfl ((h.same 7 rfl).trans p207) (h.dep 0 rfl).shape (((Mono.drew _).trans h.mono).ok _ _ b1073.ok2) h100,
      fun s v h => does_put_z rfl rfl ((h.same 8 rfl).trans p208) (h.dep 1 rfl).shape (((Mono.drew _).trans h.mono).ok _ _ b1074.ok2) h110, trivial⟩
    intro g1138 ts v1138 hts E1138
    simp only [fillL, Nat.reduceAdd, List.setIfInBounds_toArray, List.set_cons_zero, List.set_cons_succ] at hts
    subst hts
    have T1139 : Below w.heap.size w v1138 := (below_toDrew T1058).trans E1138.below
    have l1140 : q7 < v1057.heap.size := b1068.lt
    have l1141 : q13 < v1057.heap.size := b1069.lt
    have l1142 : q20 < v1057.heap.size := b1070.lt
    have l1143 : q29 < v1057.heap.size := b1071.lt
    have l1144 : q39 < v1057.heap.size := b1072.lt
    have l1145 : q96 < v1057.heap.size := b1073.lt
    have l1146 : q106 < v1057.heap.size := b1074.lt
    have l1147 : q165 < v1057.heap.size := b1075.lt
    have l1148 : q177 < v1057.heap.size := b1076.lt
    have l1149 : q1093 < v1057.heap.size := b1123.lt
    have l1150 : q1107 < v1057.heap.size := b1131.lt
    have b1151 : Bx v1138 q7 24 #[.bool na0, .slice A0 n0 c0] := (E1138.far q7 b1068.lt (nin2 n101 n111)).trans b1068
    have b1152 : Bx v1138 q13 24 #[.bool na1, .slice A1 n1 c1] := (E1138.far q13 b1069.lt (nin2 n102 n112)).trans b1069
    have b1153 : Bx v1138 q20 24 #[.bool false, .slice none 0 0] := (E1138.far q20 b1070.lt (nin2 n103 n113)).trans b1070
    have b1154 : Bx v1138 q29 24 #[.bool false, .slice none 0 0] := (E1138.far q29 b1071.lt (nin2 n104 n114)).trans b1071
    have b1155 : Bx v1138 q39 24 #[.bool false, .slice none 0 0] := (E1138.far q39 b1072.lt (nin2 n105 n115)).trans b1072
    have b1156 : Bx v1138 q165 ty9 #[.bool b9_, .slice A9_ m9_ c9_] := (E1138.far q165 b1075.lt (nin2 n175.symm n176.symm)).trans b1075
    have b1157 : Bx v1138 q177 ty10 #[.bool b10_, .slice A10_ m10_ c10_] := (E1138.far q177 b1076.lt (nin2 n187.symm n188.symm)).trans b1076
    have b1158 : Bx v1138 q1093 t1122 #[.bool x1124, .slice A1125 m1126 c1127] := (E1138.far q1093 b1123.lt (nin2 n1103.symm n1104.symm)).trans b1123
    have b1159 : Bx v1138 q1107 t1130 #[.bool x1132, .slice A1133 m1134 c1135] := (E1138.far q1107 b1131.lt (nin2 n1117.symm n1118.symm)).trans b1131
    have f1160 := f1077.mono ((Mono.drew _).trans E1138.mono)
    have f1161 := f1078.mono ((Mono.drew _).trans E1138.mono)
    have f1162 := f1079.mono ((Mono.drew _).trans E1138.mono)
    have f1163 := f1080.mono ((Mono.drew _).trans E1138.mono)
    have f1164 := f1081.mono ((Mono.drew _).trans E1138.mono)
    have f1165 := f1082.mono ((Mono.drew _).trans E1138.mono)
    have f1166 := f1083.mono ((Mono.drew _).trans E1138.mono)
    have f1167 := f1084.mono ((Mono.drew _).trans E1138.mono)
    have f1168 := f1085.mono ((Mono.drew _).trans E1138.mono)
    have f1169 := f1086.mono ((Mono.drew _).trans E1138.mono)
    have f1170 := f1087.mono ((Mono.drew _).trans E1138.mono)
    have f1171 := f1088.mono ((Mono.drew _).trans E1138.mono)
    have f1172 := f1089.mono ((Mono.drew _).trans E1138.mono)
    have f1173 := f1090.mono ((Mono.drew _).trans E1138.mono)
    have f1174 := f1129.mono ((Mono.drew _).trans E1138.mono)
    have f1175 := f1137.mono ((Mono.drew _).trans E1138.mono)
    have f1176 : Cz v1138 (g1138 0) s1 := E1138.facts 0 (by decide)
    have f1177 : Cz v1138 (g1138 1) (md r1 s1) := E1138.facts 1 (by decide)
    obtain ⟨t1178, x1180, A1181, m1182, c1183, e1184, b1179⟩ := put_info (E1138.facts 2 (by decide)) p207 f1176.shape
    have f1185 : Cz v1138 (.agg #[.bool x1180, .slice A1181 m1182 c1183]) s1 := f1176.at e1184.symm
    obtain ⟨t1186, x1188, A1189, m1190, c1191, e1192, b1187⟩ := put_info (E1138.facts 3 (by decide)) p208 f1177.shape
    have f1193 : Cz v1138 (.agg #[.bool x1188, .slice A1189 m1190 c1191]) (md r1 s1) := f1177.at e1192.symm
    refine then_normal ?_
    have HB : w.heap.size ≤ v1138.heap.size := T1139.size
    refine wp_plan_any [.val (.cz u1), .val (.cz x1), .val (.cz (fl r1 s1)), .val (.cz u1), .val (.cz ((fl r1 s1) * u1)), .val (.cz (x1 - ((fl r1 s1) * u1))), .put 9 47, .put 10 52] [9, 10] [q165, q177] w.heap.size (by kernel_rfl) (by kernel_rfl) (by kernel_rfl) ⟨p209, b1156.lt, (nin1 n189), ⟨p210, b1157.lt, (by simp), trivial⟩⟩ HB ?_ ?_
    · exact ⟨fun s v h => does_val rfl rfl (x_load_z ((h.same 10 rfl).trans p210) ((h.held 7 10 52 _ rfl rfl rfl p210).trans b1157)) (f1168.mono ((Mono.drew _).trans h.mono)),
      fun s v h => does_val rfl rfl (x_load_z ((h.same 9 rfl).trans p209) ((h.held 6 9 47 _ rfl rfl rfl p209).trans b1156)) (f1167.mono ((Mono.drew _).trans h.mono)),
      fun s v h => does_val rfl rfl (x_load_z ((h.same 11 rfl).trans p1094) ((h.far q1093 b1158.lt (nin2 n1105.symm n1106.symm)).trans b1158)) (f1174.mono ((Mono.drew _).trans h.mono)),
      fun s v h => does_val rfl rfl (x_load_z ((h.same 10 rfl).trans p210) ((h.held 7 10 52 _ rfl rfl rfl p210).trans b1157)) (f1168.mono ((Mono.drew _).trans h.mono)),
      fun s v h => does_call rfl rfl (x_call2 Try.call16) (mul_k ((h.dep 2 rfl).az (N := (N + 1)) (fl_len lr)) ((h.dep 3 rfl).az (N := N) lu) (by omega) (by omega)),
      fun s v h => does_call rfl rfl (x_call2 Try.call13) (sub_k ((h.dep 1 rfl).az (N := N) lx) ((h.dep 4 rfl).az (N := ((N + 1) + N)) (len_mul (fl_len lr) lu)) (by omega) (by omega)),
      fun s v h => does_put_z rfl rfl ((h.same 9 rfl).trans p209) (h.dep 0 rfl).shape (((Mono.drew _).trans h.mono).ok _ _ b1156.ok2) h169,
      fun s v h => does_put_z rfl rfl ((h.same 10 rfl).trans p210) (h.dep 5 rfl).shape (((Mono.drew _).trans h.mono).ok _ _ b1157.ok2) h181, trivial⟩
    intro g1194 ts v1194 hts E1194
    simp only [fillL, Nat.reduceAdd, List.setIfInBounds_toArray, List.set_cons_zero, List.set_cons_succ] at hts
    subst hts
    have T1195 : Below w.heap.size w v1194 := (below_toDrew T1139).trans E1194.below
    have l1196 : q7 < v1138.heap.size := b1151.lt
    have l1197 : q13 < v1138.heap.size := b1152.lt
    have l1198 : q20 < v1138.heap.size := b1153.lt
    have l1199 : q29 < v1138.heap.size := b1154.lt
    have l1200 : q39 < v1138.heap.size := b1155.lt
    have l1201 : q96 < v1138.heap.size := b1179.lt
    have l1202 : q106 < v1138.heap.size := b1187.lt
    have l1203 : q165 < v1138.heap.size := b1156.lt
    have l1204 : q177 < v1138.heap.size := b1157.lt
    have l1205 : q1093 < v1138.heap.size := b1158.lt
    have l1206 : q1107 < v1138.heap.size := b1159.lt
    have b1207 : Bx v1194 q7 24 #[.bool na0, .slice A0 n0 c0] := (E1194.far q7 b1151.lt (nin2 n170 n182)).trans b1151
    have b1208 : Bx v1194 q13 24 #[.bool na1, .slice A1 n1 c1] := (E1194.far q13 b1152.lt (nin2 n171 n183)).trans b1152
    have b1209 : Bx v1194 q20 24 #[.bool false, .slice none 0 0] := (E1194.far q20 b1153.lt (nin2 n172 n184)).trans b1153
    have b1210 : Bx v1194 q29 24 #[.bool false, .slice none 0 0] := (E1194.far q29 b1154.lt (nin2 n173 n185)).trans b1154
    have b1211 : Bx v1194 q39 24 #[.bool false, .slice none 0 0] := (E1194.far q39 b1155.lt (nin2 n174 n186)).trans b1155
    have b1212 : Bx v1194 q96 t1178 #[.bool x1180, .slice A1181 m1182 c1183] := (E1194.far q96 b1179.lt (nin2 n175 n187)).trans b1179
    have b1213 : Bx v1194 q106 t1186 #[.bool x1188, .slice A1189 m1190 c1191] := (E1194.far q106 b1187.lt (nin2 n176 n188)).trans b1187
    have b1214 : Bx v1194 q1093 t1122 #[.bool x1124, .slice A1125 m1126 c1127] := (E1194.far q1093 b1158.lt (nin2 n1105.symm n1106.symm)).trans b1158
    have b1215 : Bx v1194 q1107 t1130 #[.bool x1132, .slice A1133 m1134 c1135] := (E1194.far q1107 b1159.lt (nin2 n1119.symm n1120.symm)).trans b1159
    have f1216 := f1160.mono ((Mono.drew _).trans E1194.mono)
    have f1217 := f1161.mono ((Mono.drew _).trans E1194.mono)
    have f1218 := f1162.mono ((Mono.drew _).trans E1194.mono)
    have f1219 := f1163.mono ((Mono.drew _).trans E1194.mono)
    have f1220 := f1164.mono ((Mono.drew _).trans E1194.mono)
    have f1221 := f1165.mono ((Mono.drew _).trans E1194.mono)
    have f1222 := f1166.mono ((Mono.drew _).trans E1194.mono)
    have f1223 := f1167.mono ((Mono.drew _).trans E1194.mono)
    have f1224 := f1168.mono ((Mono.drew _).trans E1194.mono)
    have f1225 := f1169.mono ((Mono.drew _).trans E1194.mono)
    have f1226 := f1170.mono ((Mono.drew _).trans E1194.mono)
    have f1227 := f1171.mono ((Mono.drew _).trans E1194.mono)
    have f1228 := f1172.mono ((Mono.drew _).trans E1194.mono)
    have f1229 := f1173.mono ((Mono.drew _).trans E1194.mono)
    have f1230 := f1174.mono ((Mono.drew _).trans E1194.mono)
    have f1231 := f1175.mono ((Mono.drew _).trans E1194.mono)
    have f1232 := f1176.mono ((Mono.drew _).trans E1194.mono)
    have f1233 := f1177.mono ((Mono.drew _).trans E1194.mono)
    have f1234 := f1185.mono ((Mono.drew _).trans E1194.mono)
    have f1235 := f1193.mono ((Mono.drew _).trans E1194.mono)
    have f1236 : Cz v1194 (g1194 0) u1 := E1194.facts 0 (by decide)
    have f1237 : Cz v1194 (g1194 1) x1 := E1194.facts 1 (by decide)
    have f1238 : Cz v1194 (g1194 2) (fl r1 s1) := E1194.facts 2 (by decide)
    have f1239 : Cz v1194 (g1194 3) u1 := E1194.facts 3 (by decide)
    have f1240 : Cz v1194 (g1194 4) ((fl r1 s1) * u1) := E1194.facts 4 (by decide)
    have f1241 : Cz v1194 (g1194 5) (x1 - ((fl r1 s1) * u1)) := E1194.facts 5 (by decide)
    obtain ⟨t1242, x1244, A1245, m1246, c1247, e1248, b1243⟩ := put_info (E1194.facts 6 (by decide)) p209 f1236.shape
    have f1249 : Cz v1194 (.agg #[.bool x1244, .slice A1245 m1246 c1247]) u1 := f1236.at e1248.symm
    obtain ⟨t1250, x1252, A1253, m1254, c1255, e1256, b1251⟩ := put_info (E1194.facts 7 (by decide)) p210 f1241.shape
    have f1257 : Cz v1194 (.agg #[.bool x1252, .slice A1253 m1254 c1255]) (x1 - ((fl r1 s1) * u1)) := f1241.at e1256.symm
    refine block_normal ?_
    refine then_normal ?_
    exact ⟨rfl, rfl, _, (by rw [hk]; exact md_lt hs), s1, (md r1 s1), u1, (x1 - (fl r1 s1) * u1), t1178, x1180, A1181, m1182, c1183, t1186, x1188, A1189, m1190, c1191, t1242, x1244, A1245, m1246, c1247, t1250, x1252, A1253, m1254, c1255, p202, p203, p204, p205, p206, p207, p208, p209, p210, T1195, b1207, f1216, b1208, f1217, b1209, f1218, b1210, f1219, b1211, f1220, b1212, f1234, b1213, f1235, b1243, f1249, b1251, f1257, hJ.step hs, rfl⟩

theorem gcd_len {a b : Int} {N : Nat} (hb : b ≠ 0) (h : (digs b.natAbs).length ≤ N) : (digs ((Int.gcd a b : Int)).natAbs).length ≤ N := by
  rw [Int.natAbs_natCast]
  refine Nat.le_trans (dl_le ?_) h
  unfold Int.gcd
  exact Nat.gcd_le_right _ (by omega)
theorem sign_small (a : Int) : -1 ≤ a.sign ∧ a.sign ≤ 1 := by
  rcases Int.lt_trichotomy a 0 with h | h | h
  · rw [Int.sign_eq_neg_one_of_neg h]; omega
  · rw [h]; decide
  · rw [Int.sign_eq_one_of_pos h]; omega

set_option maxHeartbeats 4000000 in
set_option maxRecDepth 8000 in
theorem zbezout_z {w : World} {x0 : Value} {a : Int} {N : Nat} (h0 : Az N w x0 a) {y0 : Value} {b : Int} (h1 : Az N w y0 b) (d1 : (b.sign == 0) = true)  : Calls Try.prog 33 #[x0, y0] w (Ret (.tup3 (.cz (a.natAbs : Int)) (.cz a.sign) (.cz 0)) w) := by
  obtain ⟨s0, s1⟩ := sign_small a
  have la0 := h0.len
  obtain ⟨na0, A0, n0, c0, M0, rfl, hm0, hz0⟩ := h0.parts
  have la1 := h1.len
  obtain ⟨na1, A1, n1, c1, M1, rfl, hm1, hz1⟩ := h1.parts
  have T0 : Below w.heap.size w w := Below.refl _ _
  go_enter Try.func33, Try.ntmps33
  refine wp_seq ?_
  have HB : w.heap.size ≤ w.heap.size := T0.size
  refine wp_plan_seq [.new 2 (some (24, #[.bool na0, .slice A0 n0 c0])), .new 2 (some (24, #[.bool na1, .slice A1 n1 c1])), .new 2 (some (24, #[.bool false, .slice none 0 0])), .new 2 (some (24, #[.bool false, .slice none 0 0])), .new 2 (some (24, #[.bool false, .slice none 0 0]))] [] [] w.heap.size (by kernel_rfl) (by kernel_rfl) trivial HB ?_ ?_
  · exact ⟨fun s v h => does_new rfl rfl (x_box_z (h.same 0 rfl)) (okz _ _ _ _) rfl (.inr rfl),
      fun s v h => does_new rfl rfl (x_box_z (h.same 1 rfl)) (okz _ _ _ _) rfl (.inr rfl),
      fun s v h => does_new rfl rfl x_alloc_z (okz _ _ _ _) rfl (.inr rfl),
      fun s v h => does_new rfl rfl x_alloc_z (okz _ _ _ _) rfl (.inr rfl),
      fun s v h => does_new rfl rfl x_alloc_z (okz _ _ _ _) rfl (.inr rfl), trivial⟩
  intro g1258 ts v1258 hts E1258
  simp only [fillL, Nat.reduceAdd, List.setIfInBounds_toArray, List.set_cons_zero, List.set_cons_succ] at hts
  subst hts
  have T1259 : Below w.heap.size w v1258 := T0.trans E1258.below
  have f1260 := h0.mono E1258.mono
  have f1261 := hm0.mono E1258.mono
  have f1262 := h1.mono E1258.mono
  have f1263 := hm1.mono E1258.mono
  obtain ⟨q1264, p1265, l1266, o1267, b1268⟩ : ∃ q, g1258 0 = .pointer (some ⟨q, 0, none⟩) ∧ w.heap.size ≤ q ∧ OkB v1258 q 2 ∧ Bx v1258 q 24 #[.bool na0, .slice A0 n0 c0] := E1258.facts 0 (by decide)
  have h1269 : w.heap.size ≤ q1264 := Nat.le_trans HB l1266
  obtain ⟨q1270, p1271, l1272, o1273, b1274⟩ : ∃ q, g1258 1 = .pointer (some ⟨q, 0, none⟩) ∧ w.heap.size ≤ q ∧ OkB v1258 q 2 ∧ Bx v1258 q 24 #[.bool na1, .slice A1 n1 c1] := E1258.facts 1 (by decide)
  have h1275 : w.heap.size ≤ q1270 := Nat.le_trans HB l1272
  have n1276 : q1264 ≠ q1270 := apart_ne (E1258.apart 0 1 (by decide) (by decide) (by decide) ⟨_, _, rfl⟩ ⟨_, _, rfl⟩) p1265 p1271
  obtain ⟨q1277, p1278, l1279, o1280, b1281⟩ : ∃ q, g1258 2 = .pointer (some ⟨q, 0, none⟩) ∧ w.heap.size ≤ q ∧ OkB v1258 q 2 ∧ Bx v1258 q 24 #[.bool false, .slice none 0 0] := E1258.facts 2 (by decide)
  have f1282 : Cz v1258 (.agg #[.bool false, .slice none 0 0]) 0 := cz_zero _
  have h1283 : w.heap.size ≤ q1277 := Nat.le_trans HB l1279
  have n1284 : q1264 ≠ q1277 := apart_ne (E1258.apart 0 2 (by decide) (by decide) (by decide) ⟨_, _, rfl⟩ ⟨_, _, rfl⟩) p1265 p1278
  have n1285 : q1270 ≠ q1277 := apart_ne (E1258.apart 1 2 (by decide) (by decide) (by decide) ⟨_, _, rfl⟩ ⟨_, _, rfl⟩) p1271 p1278
  obtain ⟨q1286, p1287, l1288, o1289, b1290⟩ : ∃ q, g1258 3 = .pointer (some ⟨q, 0, none⟩) ∧ w.heap.size ≤ q ∧ OkB v1258 q 2 ∧ Bx v1258 q 24 #[.bool false, .slice none 0 0] := E1258.facts 3 (by decide)
  have f1291 : Cz v1258 (.agg #[.bool false, .slice none 0 0]) 0 := cz_zero _
  have h1292 : w.heap.size ≤ q1286 := Nat.le_trans HB l1288
  have n1293 : q1264 ≠ q1286 := apart_ne (E1258.apart 0 3 (by decide) (by decide) (by decide) ⟨_, _, rfl⟩ ⟨_, _, rfl⟩) p1265 p1287
  have n1294 : q1270 ≠ q1286 := apart_ne (E1258.apart 1 3 (by decide) (by decide) (by decide) ⟨_, _, rfl⟩ ⟨_, _, rfl⟩) p1271 p1287
  have n1295 : q1277 ≠ q1286 := apart_ne (E1258.apart 2 3 (by decide) (by decide) (by decide) ⟨_, _, rfl⟩ ⟨_, _, rfl⟩) p1278 p1287
  obtain ⟨q1296, p1297, l1298, o1299, b1300⟩ : ∃ q, g1258 4 = .pointer (some ⟨q, 0, none⟩) ∧ w.heap.size ≤ q ∧ OkB v1258 q 2 ∧ Bx v1258 q 24 #[.bool false, .slice none 0 0] := E1258.facts 4 (by decide)
  have f1301 : Cz v1258 (.agg #[.bool false, .slice none 0 0]) 0 := cz_zero _
  have h1302 : w.heap.size ≤ q1296 := Nat.le_trans HB l1298
  have n1303 : q1264 ≠ q1296 := apart_ne (E1258.apart 0 4 (by decide) (by decide) (by decide) ⟨_, _, rfl⟩ ⟨_, _, rfl⟩) p1265 p1297
  have n1304 : q1270 ≠ q1296 := apart_ne (E1258.apart 1 4 (by decide) (by decide) (by decide) ⟨_, _, rfl⟩ ⟨_, _, rfl⟩) p1271 p1297
  have n1305 : q1277 ≠ q1296 := apart_ne (E1258.apart 2 4 (by decide) (by decide) (by decide) ⟨_, _, rfl⟩ ⟨_, _, rfl⟩) p1278 p1297
  have n1306 : q1286 ≠ q1296 := apart_ne (E1258.apart 3 4 (by decide) (by decide) (by decide) ⟨_, _, rfl⟩ ⟨_, _, rfl⟩) p1287 p1297
  refine then_normal ?_
  refine wp_seq ?_
  refine wp_seq ?_
  have HB : w.heap.size ≤ v1258.heap.size := T1259.size
  refine wp_plan_seq [.val (.az N b), .val (.is (.int .i64 b.sign)), .val (.is (.bool true))] [] [] w.heap.size (by kernel_rfl) (by kernel_rfl) trivial HB ?_ ?_
  · exact ⟨fun s v h => does_val rfl rfl (x_load_z ((h.same 3 rfl).trans p1271) ((h.far q1270 b1274.lt (by simp)).trans b1274)) (f1262.mono h.mono),
      fun s v h => does_call rfl rfl (x_call1 Try.call39) (sign_k (h.dep 0 rfl)),
      fun s v h => does_val rfl rfl (x_eql_int (h.dep 1 rfl) rfl) (congrArg Value.bool d1), trivial⟩
  intro g1307 ts v1307 hts E1307
  simp only [fillL, Nat.reduceAdd, List.setIfInBounds_toArray, List.set_cons_zero, List.set_cons_succ] at hts
  subst hts
  have T1308 : Below w.heap.size w v1307 := T1259.trans E1307.below
  have l1309 : q1264 < v1258.heap.size := b1268.lt
  have l1310 : q1270 < v1258.heap.size := b1274.lt
  have l1311 : q1277 < v1258.heap.size := b1281.lt
  have l1312 : q1286 < v1258.heap.size := b1290.lt
  have l1313 : q1296 < v1258.heap.size := b1300.lt
  have b1314 : Bx v1307 q1264 24 #[.bool na0, .slice A0 n0 c0] := (E1307.far q1264 b1268.lt (by simp)).trans b1268
  have b1315 : Bx v1307 q1270 24 #[.bool na1, .slice A1 n1 c1] := (E1307.far q1270 b1274.lt (by simp)).trans b1274
  have b1316 : Bx v1307 q1277 24 #[.bool false, .slice none 0 0] := (E1307.far q1277 b1281.lt (by simp)).trans b1281
  have b1317 : Bx v1307 q1286 24 #[.bool false, .slice none 0 0] := (E1307.far q1286 b1290.lt (by simp)).trans b1290
  have b1318 : Bx v1307 q1296 24 #[.bool false, .slice none 0 0] := (E1307.far q1296 b1300.lt (by simp)).trans b1300
  have f1319 := f1260.mono E1307.mono
  have f1320 := f1261.mono E1307.mono
  have f1321 := f1262.mono E1307.mono
  have f1322 := f1263.mono E1307.mono
  have f1323 := f1282.mono E1307.mono
  have f1324 := f1291.mono E1307.mono
  have f1325 := f1301.mono E1307.mono
  have f1326 : Az N v1307 (g1307 0) b := E1307.facts 0 (by decide)
  have e1327 : g1307 1 = (.int .i64 b.sign) := E1307.facts 1 (by decide)
  have e1328 : g1307 2 = (.bool true) := E1307.facts 2 (by decide)
  refine then_normal ?_
  refine wp_cond_true e1328 ?_
  refine wp_seq ?_
  have HB : w.heap.size ≤ v1307.heap.size := T1308.size
  refine wp_plan_any [.val (.az N a), .val (.cz (a.natAbs : Int)), .val (.az N a), .val (.is (.int .i64 a.sign)), .val (.cz a.sign), .val (.is (.agg #[.bool false, .slice none 0 0])), .put 4 24, .put 5 27, .put 6 28] [4, 5, 6] [q1277, q1286, q1296] w.heap.size (by kernel_rfl) (by kernel_rfl) (by kernel_rfl) ⟨p1278, b1316.lt, (nin2 n1295 n1305), ⟨p1287, b1317.lt, (nin1 n1306), ⟨p1297, b1318.lt, (by simp), trivial⟩⟩⟩ HB ?_ ?_
  · exact ⟨fun s v h => does_val rfl rfl (x_load_z ((h.same 2 rfl).trans p1265) ((h.far q1264 b1314.lt (nin3 n1284 n1293 n1303)).trans b1314)) (f1319.mono ((Mono.drew _).trans h.mono)),
      fun s v h => does_call rfl rfl (x_call1 Try.call41) (abs_k (h.dep 0 rfl)),
      fun s v h => does_val rfl rfl (x_load_z ((h.same 2 rfl).trans p1265) ((h.far q1264 b1314.lt (nin3 n1284 n1293 n1303)).trans b1314)) (f1319.mono ((Mono.drew _).trans h.mono)),
      fun s v h => does_call rfl rfl (x_call1 Try.call39) (sign_k (h.dep 2 rfl)),
      fun s v h => does_call rfl rfl (x_call1 Try.call42) (of_k (h.dep 3 rfl) (by omega) (by omega)),
      fun s v h => does_val rfl rfl x_build0 rfl,
      fun s v h => does_put_z rfl rfl ((h.same 4 rfl).trans p1278) (h.dep 1 rfl).shape (((Mono.drew _).trans h.mono).ok _ _ b1316.ok2) h1283,
      fun s v h => does_put_z rfl rfl ((h.same 5 rfl).trans p1287) (h.dep 4 rfl).shape (((Mono.drew _).trans h.mono).ok _ _ b1317.ok2) h1292,
      fun s v h => does_put_z rfl rfl ((h.same 6 rfl).trans p1297) ⟨_, _, _, _, (h.dep 5 rfl)⟩ (((Mono.drew _).trans h.mono).ok _ _ b1318.ok2) h1302, trivial⟩
  intro g1329 ts v1329 hts E1329
  simp only [fillL, Nat.reduceAdd, List.setIfInBounds_toArray, List.set_cons_zero, List.set_cons_succ] at hts
  subst hts
  have T1330 : Below w.heap.size w v1329 := (below_toDrew T1308).trans E1329.below
  have l1331 : q1264 < v1307.heap.size := b1314.lt
  have l1332 : q1270 < v1307.heap.size := b1315.lt
  have l1333 : q1277 < v1307.heap.size := b1316.lt
  have l1334 : q1286 < v1307.heap.size := b1317.lt
  have l1335 : q1296 < v1307.heap.size := b1318.lt
  have b1336 : Bx v1329 q1264 24 #[.bool na0, .slice A0 n0 c0] := (E1329.far q1264 b1314.lt (nin3 n1284 n1293 n1303)).trans b1314
  have b1337 : Bx v1329 q1270 24 #[.bool na1, .slice A1 n1 c1] := (E1329.far q1270 b1315.lt (nin3 n1285 n1294 n1304)).trans b1315
  have f1338 := f1319.mono ((Mono.drew _).trans E1329.mono)
  have f1339 := f1320.mono ((Mono.drew _).trans E1329.mono)
  have f1340 := f1321.mono ((Mono.drew _).trans E1329.mono)
  have f1341 := f1322.mono ((Mono.drew _).trans E1329.mono)
  have f1342 := f1323.mono ((Mono.drew _).trans E1329.mono)
  have f1343 := f1324.mono ((Mono.drew _).trans E1329.mono)
  have f1344 := f1325.mono ((Mono.drew _).trans E1329.mono)
  have f1345 := f1326.mono ((Mono.drew _).trans E1329.mono)
  have f1346 : Az N v1329 (g1329 0) a := E1329.facts 0 (by decide)
  have f1347 : Cz v1329 (g1329 1) (a.natAbs : Int) := E1329.facts 1 (by decide)
  have f1348 : Az N v1329 (g1329 2) a := E1329.facts 2 (by decide)
  have e1349 : g1329 3 = (.int .i64 a.sign) := E1329.facts 3 (by decide)
  have f1350 : Cz v1329 (g1329 4) a.sign := E1329.facts 4 (by decide)
  have e1351 : g1329 5 = (.agg #[.bool false, .slice none 0 0]) := E1329.facts 5 (by decide)
  obtain ⟨t1352, x1354, A1355, m1356, c1357, e1358, b1353⟩ := put_info (E1329.facts 6 (by decide)) p1278 f1347.shape
  have f1359 : Cz v1329 (.agg #[.bool x1354, .slice A1355 m1356 c1357]) (a.natAbs : Int) := f1347.at e1358.symm
  obtain ⟨t1360, x1362, A1363, m1364, c1365, e1366, b1361⟩ := put_info (E1329.facts 7 (by decide)) p1287 f1350.shape
  have f1367 : Cz v1329 (.agg #[.bool x1362, .slice A1363 m1364 c1365]) a.sign := f1350.at e1366.symm
  obtain ⟨t1368, b1369⟩ := put_lit (E1329.facts 8 (by decide)) p1297 e1351
  have f1370 : Cz v1329 (.agg #[.bool false, .slice none 0 0]) 0 := cz_zero _
  refine then_normal ?_
  refine wp_ret ?_
  exact bodyPost_ret (ret_ccc rfl p1278 b1353 p1287 b1361 p1297 b1369) rfl ⟨_, rfl, ⟨_, _, _, rfl, f1359, f1367, f1370⟩, T1330⟩

set_option maxHeartbeats 4000000 in
set_option maxRecDepth 8000 in
theorem r2bezout_z {w : World} {x0 : Value} {a : Int} {N : Nat} (h0 : Az N w x0 a) {y0 : Value} {b : Int} (h1 : Az N w y0 b) (hN : N ≤ 100000000) (d1 : (b.sign == 0) = true)  : Calls Try.prog 34 #[x0, y0] w (Ret (.tup3 (.cz (a.natAbs : Int)) (.cz a.sign) (.cz 0)) w) := by
  obtain ⟨s0, s1⟩ := sign_small a
  have la0 := h0.len
  obtain ⟨na0, A0, n0, c0, M0, rfl, hm0, hz0⟩ := h0.parts
  have la1 := h1.len
  obtain ⟨na1, A1, n1, c1, M1, rfl, hm1, hz1⟩ := h1.parts
  have T0 : Below w.heap.size w w := Below.refl _ _
  go_enter Try.func34, Try.ntmps34
  refine wp_seq ?_
  have HB : w.heap.size ≤ w.heap.size := T0.size
  refine wp_plan_seq [.new 2 (some (24, #[.bool na0, .slice A0 n0 c0])), .new 2 (some (24, #[.bool na1, .slice A1 n1 c1])), .new 2 (some (24, #[.bool false, .slice none 0 0])), .new 2 (some (24, #[.bool false, .slice none 0 0])), .new 2 (some (24, #[.bool false, .slice none 0 0]))] [] [] w.heap.size (by kernel_rfl) (by kernel_rfl) trivial HB ?_ ?_
  · exact ⟨fun s v h => does_new rfl rfl (x_box_z (h.same 0 rfl)) (okz _ _ _ _) rfl (.inr rfl),
      fun s v h => does_new rfl rfl (x_box_z (h.same 1 rfl)) (okz _ _ _ _) rfl (.inr rfl),
      fun s v h => does_new rfl rfl x_alloc_z (okz _ _ _ _) rfl (.inr rfl),
      fun s v h => does_new rfl rfl x_alloc_z (okz _ _ _ _) rfl (.inr rfl),
      fun s v h => does_new rfl rfl x_alloc_z (okz _ _ _ _) rfl (.inr rfl), trivial⟩
  intro g1371 ts v1371 hts E1371
  simp only [fillL, Nat.reduceAdd, List.setIfInBounds_toArray, List.set_cons_zero, List.set_cons_succ] at hts
  subst hts
  have T1372 : Below w.heap.size w v1371 := T0.trans E1371.below
  have f1373 := h0.mono E1371.mono
  have f1374 := hm0.mono E1371.mono
  have f1375 := h1.mono E1371.mono
  have f1376 := hm1.mono E1371.mono
  obtain ⟨q1377, p1378, l1379, o1380, b1381⟩ : ∃ q, g1371 0 = .pointer (some ⟨q, 0, none⟩) ∧ w.heap.size ≤ q ∧ OkB v1371 q 2 ∧ Bx v1371 q 24 #[.bool na0, .slice A0 n0 c0] := E1371.facts 0 (by decide)
  have h1382 : w.heap.size ≤ q1377 := Nat.le_trans HB l1379
  obtain ⟨q1383, p1384, l1385, o1386, b1387⟩ : ∃ q, g1371 1 = .pointer (some ⟨q, 0, none⟩) ∧ w.heap.size ≤ q ∧ OkB v1371 q 2 ∧ Bx v1371 q 24 #[.bool na1, .slice A1 n1 c1] := E1371.facts 1 (by decide)
  have h1388 : w.heap.size ≤ q1383 := Nat.le_trans HB l1385
  have n1389 : q1377 ≠ q1383 := apart_ne (E1371.apart 0 1 (by decide) (by decide) (by decide) ⟨_, _, rfl⟩ ⟨_, _, rfl⟩) p1378 p1384
  obtain ⟨q1390, p1391, l1392, o1393, b1394⟩ : ∃ q, g1371 2 = .pointer (some ⟨q, 0, none⟩) ∧ w.heap.size ≤ q ∧ OkB v1371 q 2 ∧ Bx v1371 q 24 #[.bool false, .slice none 0 0] := E1371.facts 2 (by decide)
  have f1395 : Cz v1371 (.agg #[.bool false, .slice none 0 0]) 0 := cz_zero _
  have h1396 : w.heap.size ≤ q1390 := Nat.le_trans HB l1392
  have n1397 : q1377 ≠ q1390 := apart_ne (E1371.apart 0 2 (by decide) (by decide) (by decide) ⟨_, _, rfl⟩ ⟨_, _, rfl⟩) p1378 p1391
  have n1398 : q1383 ≠ q1390 := apart_ne (E1371.apart 1 2 (by decide) (by decide) (by decide) ⟨_, _, rfl⟩ ⟨_, _, rfl⟩) p1384 p1391
  obtain ⟨q1399, p1400, l1401, o1402, b1403⟩ : ∃ q, g1371 3 = .pointer (some ⟨q, 0, none⟩) ∧ w.heap.size ≤ q ∧ OkB v1371 q 2 ∧ Bx v1371 q 24 #[.bool false, .slice none 0 0] := E1371.facts 3 (by decide)
  have f1404 : Cz v1371 (.agg #[.bool false, .slice none 0 0]) 0 := cz_zero _
  have h1405 : w.heap.size ≤ q1399 := Nat.le_trans HB l1401
  have n1406 : q1377 ≠ q1399 := apart_ne (E1371.apart 0 3 (by decide) (by decide) (by decide) ⟨_, _, rfl⟩ ⟨_, _, rfl⟩) p1378 p1400
  have n1407 : q1383 ≠ q1399 := apart_ne (E1371.apart 1 3 (by decide) (by decide) (by decide) ⟨_, _, rfl⟩ ⟨_, _, rfl⟩) p1384 p1400
  have n1408 : q1390 ≠ q1399 := apart_ne (E1371.apart 2 3 (by decide) (by decide) (by decide) ⟨_, _, rfl⟩ ⟨_, _, rfl⟩) p1391 p1400
  obtain ⟨q1409, p1410, l1411, o1412, b1413⟩ : ∃ q, g1371 4 = .pointer (some ⟨q, 0, none⟩) ∧ w.heap.size ≤ q ∧ OkB v1371 q 2 ∧ Bx v1371 q 24 #[.bool false, .slice none 0 0] := E1371.facts 4 (by decide)
  have f1414 : Cz v1371 (.agg #[.bool false, .slice none 0 0]) 0 := cz_zero _
  have h1415 : w.heap.size ≤ q1409 := Nat.le_trans HB l1411
  have n1416 : q1377 ≠ q1409 := apart_ne (E1371.apart 0 4 (by decide) (by decide) (by decide) ⟨_, _, rfl⟩ ⟨_, _, rfl⟩) p1378 p1410
  have n1417 : q1383 ≠ q1409 := apart_ne (E1371.apart 1 4 (by decide) (by decide) (by decide) ⟨_, _, rfl⟩ ⟨_, _, rfl⟩) p1384 p1410
  have n1418 : q1390 ≠ q1409 := apart_ne (E1371.apart 2 4 (by decide) (by decide) (by decide) ⟨_, _, rfl⟩ ⟨_, _, rfl⟩) p1391 p1410
  have n1419 : q1399 ≠ q1409 := apart_ne (E1371.apart 3 4 (by decide) (by decide) (by decide) ⟨_, _, rfl⟩ ⟨_, _, rfl⟩) p1400 p1410
  refine then_normal ?_
  refine wp_seq ?_
  refine wp_seq ?_
  have HB : w.heap.size ≤ v1371.heap.size := T1372.size
  refine wp_plan_seq [.val (.az N b), .val (.is (.int .i64 b.sign)), .val (.is (.bool true))] [] [] w.heap.size (by kernel_rfl) (by kernel_rfl) trivial HB ?_ ?_
  · exact ⟨fun s v h => does_val rfl rfl (x_load_z ((h.same 3 rfl).trans p1384) ((h.far q1383 b1387.lt (by simp)).trans b1387)) (f1375.mono h.mono),
      fun s v h => does_call rfl rfl (x_call1 Try.call28) (r2sign_k (h.dep 0 rfl) (by omega)),
      fun s v h => does_val rfl rfl (x_eql_int (h.dep 1 rfl) rfl) (congrArg Value.bool d1), trivial⟩
  intro g1420 ts v1420 hts E1420
  simp only [fillL, Nat.reduceAdd, List.setIfInBounds_toArray, List.set_cons_zero, List.set_cons_succ] at hts
  subst hts
  have T1421 : Below w.heap.size w v1420 := T1372.trans E1420.below
  have l1422 : q1377 < v1371.heap.size := b1381.lt
  have l1423 : q1383 < v1371.heap.size := b1387.lt
  have l1424 : q1390 < v1371.heap.size := b1394.lt
  have l1425 : q1399 < v1371.heap.size := b1403.lt
  have l1426 : q1409 < v1371.heap.size := b1413.lt
  have b1427 : Bx v1420 q1377 24 #[.bool na0, .slice A0 n0 c0] := (E1420.far q1377 b1381.lt (by simp)).trans b1381
  have b1428 : Bx v1420 q1383 24 #[.bool na1, .slice A1 n1 c1] := (E1420.far q1383 b1387.lt (by simp)).trans b1387
  have b1429 : Bx v1420 q1390 24 #[.bool false, .slice none 0 0] := (E1420.far q1390 b1394.lt (by simp)).trans b1394
  have b1430 : Bx v1420 q1399 24 #[.bool false, .slice none 0 0] := (E1420.far q1399 b1403.lt (by simp)).trans b1403
  have b1431 : Bx v1420 q1409 24 #[.bool false, .slice none 0 0] := (E1420.far q1409 b1413.lt (by simp)).trans b1413
  have f1432 := f1373.mono E1420.mono
  have f1433 := f1374.mono E1420.mono
  have f1434 := f1375.mono E1420.mono
  have f1435 := f1376.mono E1420.mono
  have f1436 := f1395.mono E1420.mono
  have f1437 := f1404.mono E1420.mono
  have f1438 := f1414.mono E1420.mono
  have f1439 : Az N v1420 (g1420 0) b := E1420.facts 0 (by decide)
  have e1440 : g1420 1 = (.int .i64 b.sign) := E1420.facts 1 (by decide)
  have e1441 : g1420 2 = (.bool true) := E1420.facts 2 (by decide)
  refine then_normal ?_
  refine wp_cond_true e1441 ?_
  refine wp_seq ?_
  have HB : w.heap.size ≤ v1420.heap.size := T1421.size
  refine wp_plan_any [.val (.az N a), .val (.cz (a.natAbs : Int)), .val (.az N a), .val (.is (.int .i64 a.sign)), .val (.cz a.sign), .val (.cz 0), .put 4 20, .put 5 23, .put 6 24] [4, 5, 6] [q1390, q1399, q1409] w.heap.size (by kernel_rfl) (by kernel_rfl) (by kernel_rfl) ⟨p1391, b1429.lt, (nin2 n1408 n1418), ⟨p1400, b1430.lt, (nin1 n1419), ⟨p1410, b1431.lt, (by simp), trivial⟩⟩⟩ HB ?_ ?_
  · exact ⟨fun s v h => does_val rfl rfl (x_load_z ((h.same 2 rfl).trans p1378) ((h.far q1377 b1427.lt (nin3 n1397 n1406 n1416)).trans b1427)) (f1432.mono ((Mono.drew _).trans h.mono)),
      fun s v h => does_call rfl rfl (x_call1 Try.call50) (r2abs_k (h.dep 0 rfl) (by omega)),
      fun s v h => does_val rfl rfl (x_load_z ((h.same 2 rfl).trans p1378) ((h.far q1377 b1427.lt (nin3 n1397 n1406 n1416)).trans b1427)) (f1432.mono ((Mono.drew _).trans h.mono)),
      fun s v h => does_call rfl rfl (x_call1 Try.call28) (r2sign_k (h.dep 2 rfl) (by omega)),
      fun s v h => does_call rfl rfl (x_call1 Try.call72) (r2of_k (h.dep 3 rfl) (by omega) (by omega)),
      fun s v h => does_call rfl rfl (x_call1 Try.call72) (r2of_k rfl (by decide) (by decide)),
      fun s v h => does_put_z rfl rfl ((h.same 4 rfl).trans p1391) (h.dep 1 rfl).shape (((Mono.drew _).trans h.mono).ok _ _ b1429.ok2) h1396,
      fun s v h => does_put_z rfl rfl ((h.same 5 rfl).trans p1400) (h.dep 4 rfl).shape (((Mono.drew _).trans h.mono).ok _ _ b1430.ok2) h1405,
      fun s v h => does_put_z rfl rfl ((h.same 6 rfl).trans p1410) (h.dep 5 rfl).shape (((Mono.drew _).trans h.mono).ok _ _ b1431.ok2) h1415, trivial⟩
  intro g1442 ts v1442 hts E1442
  simp only [fillL, Nat.reduceAdd, List.setIfInBounds_toArray, List.set_cons_zero, List.set_cons_succ] at hts
  subst hts
  have T1443 : Below w.heap.size w v1442 := (below_toDrew T1421).trans E1442.below
  have l1444 : q1377 < v1420.heap.size := b1427.lt
  have l1445 : q1383 < v1420.heap.size := b1428.lt
  have l1446 : q1390 < v1420.heap.size := b1429.lt
  have l1447 : q1399 < v1420.heap.size := b1430.lt
  have l1448 : q1409 < v1420.heap.size := b1431.lt
  have b1449 : Bx v1442 q1377 24 #[.bool na0, .slice A0 n0 c0] := (E1442.far q1377 b1427.lt (nin3 n1397 n1406 n1416)).trans b1427
  have b1450 : Bx v1442 q1383 24 #[.bool na1, .slice A1 n1 c1] := (E1442.far q1383 b1428.lt (nin3 n1398 n1407 n1417)).trans b1428
  have f1451 := f1432.mono ((Mono.drew _).trans E1442.mono)
  have f1452 := f1433.mono ((Mono.drew _).trans E1442.mono)
  have f1453 := f1434.mono ((Mono.drew _).trans E1442.mono)
  have f1454 := f1435.mono ((Mono.drew _).trans E1442.mono)
  have f1455 := f1436.mono ((Mono.drew _).trans E1442.mono)
  have f1456 := f1437.mono ((Mono.drew _).trans E1442.mono)
  have f1457 := f1438.mono ((Mono.drew _).trans E1442.mono)
  have f1458 := f1439.mono ((Mono.drew _).trans E1442.mono)
  have f1459 : Az N v1442 (g1442 0) a := E1442.facts 0 (by decide)
  have f1460 : Cz v1442 (g1442 1) (a.natAbs : Int) := E1442.facts 1 (by decide)
  have f1461 : Az N v1442 (g1442 2) a := E1442.facts 2 (by decide)
  have e1462 : g1442 3 = (.int .i64 a.sign) := E1442.facts 3 (by decide)
  have f1463 : Cz v1442 (g1442 4) a.sign := E1442.facts 4 (by decide)
  have f1464 : Cz v1442 (g1442 5) 0 := E1442.facts 5 (by decide)
  obtain ⟨t1465, x1467, A1468, m1469, c1470, e1471, b1466⟩ := put_info (E1442.facts 6 (by decide)) p1391 f1460.shape
  have f1472 : Cz v1442 (.agg #[.bool x1467, .slice A1468 m1469 c1470]) (a.natAbs : Int) := f1460.at e1471.symm
  obtain ⟨t1473, x1475, A1476, m1477, c1478, e1479, b1474⟩ := put_info (E1442.facts 7 (by decide)) p1400 f1463.shape
  have f1480 : Cz v1442 (.agg #[.bool x1475, .slice A1476 m1477 c1478]) a.sign := f1463.at e1479.symm
  obtain ⟨t1481, x1483, A1484, m1485, c1486, e1487, b1482⟩ := put_info (E1442.facts 8 (by decide)) p1410 f1464.shape
  have f1488 : Cz v1442 (.agg #[.bool x1483, .slice A1484 m1485 c1486]) 0 := f1464.at e1487.symm
  refine then_normal ?_
  refine wp_ret ?_
  exact bodyPost_ret (ret_ccc rfl p1391 b1466 p1400 b1474 p1410 b1482) rfl ⟨_, rfl, ⟨_, _, _, rfl, f1472, f1480, f1488⟩, T1443⟩

set_option maxHeartbeats 4000000 in
set_option maxRecDepth 8000 in
theorem r2bezout_n {w : World} {x0 : Value} {a : Int} {N : Nat} (h0 : Az N w x0 a) {y0 : Value} {b : Int} (h1 : Az N w y0 b) (hN : N ≤ 100000000) (hu : b ≠ 0) (d1 : (b.sign == 0) = false)  : Calls Try.prog 34 #[x0, y0] w (Ret (.tup3 (.cz (Int.gcd a b : Int)) (.cz (bezX a b)) (.cz (fl ((Int.gcd a b : Int) - bezX a b * a) b))) w) := by
  have la0 := h0.len
  obtain ⟨na0, A0, n0, c0, M0, rfl, hm0, hz0⟩ := h0.parts
  have la1 := h1.len
  obtain ⟨na1, A1, n1, c1, M1, rfl, hm1, hz1⟩ := h1.parts
  have T0 : Below w.heap.size w w := Below.refl _ _
  go_enter Try.func34, Try.ntmps34
  refine wp_seq ?_
  have HB : w.heap.size ≤ w.heap.size := T0.size
  refine wp_plan_seq [.new 2 (some (24, #[.bool na0, .slice A0 n0 c0])), .new 2 (some (24, #[.bool na1, .slice A1 n1 c1])), .new 2 (some (24, #[.bool false, .slice none 0 0])), .new 2 (some (24, #[.bool false, .slice none 0 0])), .new 2 (some (24, #[.bool false, .slice none 0 0]))] [] [] w.heap.size (by kernel_rfl) (by kernel_rfl) trivial HB ?_ ?_
  · exact ⟨fun s v h => does_new rfl rfl (x_box_z (h.same 0 rfl)) (okz _ _ _ _) rfl (.inr rfl),
      fun s v h => does_new rfl rfl (x_box_z (h.same 1 rfl)) (okz _ _ _ _) rfl (.inr rfl),
      fun s v h => does_new rfl rfl x_alloc_z (okz _ _ _ _) rfl (.inr rfl),
      fun s v h => does_new rfl rfl x_alloc_z (okz _ _ _ _) rfl (.inr rfl),
      fun s v h => does_new rfl rfl x_alloc_z (okz _ _ _ _) rfl (.inr rfl), trivial⟩
  intro g1489 ts v1489 hts E1489
  simp only [fillL, Nat.reduceAdd, List.setIfInBounds_toArray, List.set_cons_zero, List.set_cons_succ] at hts
  subst hts
  have T1490 : Below w.heap.size w v1489 := T0.trans E1489.below
  have f1491 := h0.mono E1489.mono
  have f1492 := hm0.mono E1489.mono
  have f1493 := h1.mono E1489.mono
  have f1494 := hm1.mono E1489.mono
  obtain ⟨q1495, p1496, l1497, o1498, b1499⟩ : ∃ q, g1489 0 = .pointer (some ⟨q, 0, none⟩) ∧ w.heap.size ≤ q ∧ OkB v1489 q 2 ∧ Bx v1489 q 24 #[.bool na0, .slice A0 n0 c0] := E1489.facts 0 (by decide)
  have h1500 : w.heap.size ≤ q1495 := Nat.le_trans HB l1497
  obtain ⟨q1501, p1502, l1503, o1504, b1505⟩ : ∃ q, g1489 1 = .pointer (some ⟨q, 0, none⟩) ∧ w.heap.size ≤ q ∧ OkB v1489 q 2 ∧ Bx v1489 q 24 #[.bool na1, .slice A1 n1 c1] := E1489.facts 1 (by decide)
  have h1506 : w.heap.size ≤ q1501 := Nat.le_trans HB l1503
  have n1507 : q1495 ≠ q1501 := apart_ne (E1489.apart 0 1 (by decide) (by decide) (by decide) ⟨_, _, rfl⟩ ⟨_, _, rfl⟩) p1496 p1502
  obtain ⟨q1508, p1509, l1510, o1511, b1512⟩ : ∃ q, g1489 2 = .pointer (some ⟨q, 0, none⟩) ∧ w.heap.size ≤ q ∧ OkB v1489 q 2 ∧ Bx v1489 q 24 #[.bool false, .slice none 0 0] := E1489.facts 2 (by decide)
  have f1513 : Cz v1489 (.agg #[.bool false, .slice none 0 0]) 0 := cz_zero _
  have h1514 : w.heap.size ≤ q1508 := Nat.le_trans HB l1510
  have n1515 : q1495 ≠ q1508 := apart_ne (E1489.apart 0 2 (by decide) (by decide) (by decide) ⟨_, _, rfl⟩ ⟨_, _, rfl⟩) p1496 p1509
  have n1516 : q1501 ≠ q1508 := apart_ne (E1489.apart 1 2 (by decide) (by decide) (by decide) ⟨_, _, rfl⟩ ⟨_, _, rfl⟩) p1502 p1509
  obtain ⟨q1517, p1518, l1519, o1520, b1521⟩ : ∃ q, g1489 3 = .pointer (some ⟨q, 0, none⟩) ∧ w.heap.size ≤ q ∧ OkB v1489 q 2 ∧ Bx v1489 q 24 #[.bool false, .slice none 0 0] := E1489.facts 3 (by decide)
  have f1522 : Cz v1489 (.agg #[.bool false, .slice none 0 0]) 0 := cz_zero _
  have h1523 : w.heap.size ≤ q1517 := Nat.le_trans HB l1519
  have n1524 : q1495 ≠ q1517 := apart_ne (E1489.apart 0 3 (by decide) (by decide) (by decide) ⟨_, _, rfl⟩ ⟨_, _, rfl⟩) p1496 p1518
  have n1525 : q1501 ≠ q1517 := apart_ne (E1489.apart 1 3 (by decide) (by decide) (by decide) ⟨_, _, rfl⟩ ⟨_, _, rfl⟩) p1502 p1518
  have n1526 : q1508 ≠ q1517 := apart_ne (E1489.apart 2 3 (by decide) (by decide) (by decide) ⟨_, _, rfl⟩ ⟨_, _, rfl⟩) p1509 p1518
  obtain ⟨q1527, p1528, l1529, o1530, b1531⟩ : ∃ q, g1489 4 = .pointer (some ⟨q, 0, none⟩) ∧ w.heap.size ≤ q ∧ OkB v1489 q 2 ∧ Bx v1489 q 24 #[.bool false, .slice none 0 0] := E1489.facts 4 (by decide)
  have f1532 : Cz v1489 (.agg #[.bool false, .slice none 0 0]) 0 := cz_zero _
  have h1533 : w.heap.size ≤ q1527 := Nat.le_trans HB l1529
  have n1534 : q1495 ≠ q1527 := apart_ne (E1489.apart 0 4 (by decide) (by decide) (by decide) ⟨_, _, rfl⟩ ⟨_, _, rfl⟩) p1496 p1528
  have n1535 : q1501 ≠ q1527 := apart_ne (E1489.apart 1 4 (by decide) (by decide) (by decide) ⟨_, _, rfl⟩ ⟨_, _, rfl⟩) p1502 p1528
  have n1536 : q1508 ≠ q1527 := apart_ne (E1489.apart 2 4 (by decide) (by decide) (by decide) ⟨_, _, rfl⟩ ⟨_, _, rfl⟩) p1509 p1528
  have n1537 : q1517 ≠ q1527 := apart_ne (E1489.apart 3 4 (by decide) (by decide) (by decide) ⟨_, _, rfl⟩ ⟨_, _, rfl⟩) p1518 p1528
  refine then_normal ?_
  refine wp_seq ?_
  refine wp_seq ?_
  have HB : w.heap.size ≤ v1489.heap.size := T1490.size
  refine wp_plan_seq [.val (.az N b), .val (.is (.int .i64 b.sign)), .val (.is (.bool false))] [] [] w.heap.size (by kernel_rfl) (by kernel_rfl) trivial HB ?_ ?_
  · exact ⟨fun s v h => does_val rfl rfl (x_load_z ((h.same 3 rfl).trans p1502) ((h.far q1501 b1505.lt (by simp)).trans b1505)) (f1493.mono h.mono),
      fun s v h => does_call rfl rfl (x_call1 Try.call28) (r2sign_k (h.dep 0 rfl) (by omega)),
      fun s v h => does_val rfl rfl (x_eql_int (h.dep 1 rfl) rfl) (congrArg Value.bool d1), trivial⟩
  intro g1538 ts v1538 hts E1538
  simp only [fillL, Nat.reduceAdd, List.setIfInBounds_toArray, List.set_cons_zero, List.set_cons_succ] at hts
  subst hts
  have T1539 : Below w.heap.size w v1538 := T1490.trans E1538.below
  have l1540 : q1495 < v1489.heap.size := b1499.lt
  have l1541 : q1501 < v1489.heap.size := b1505.lt
  have l1542 : q1508 < v1489.heap.size := b1512.lt
  have l1543 : q1517 < v1489.heap.size := b1521.lt
  have l1544 : q1527 < v1489.heap.size := b1531.lt
  have b1545 : Bx v1538 q1495 24 #[.bool na0, .slice A0 n0 c0] := (E1538.far q1495 b1499.lt (by simp)).trans b1499
  have b1546 : Bx v1538 q1501 24 #[.bool na1, .slice A1 n1 c1] := (E1538.far q1501 b1505.lt (by simp)).trans b1505
  have b1547 : Bx v1538 q1508 24 #[.bool false, .slice none 0 0] := (E1538.far q1508 b1512.lt (by simp)).trans b1512
  have b1548 : Bx v1538 q1517 24 #[.bool false, .slice none 0 0] := (E1538.far q1517 b1521.lt (by simp)).trans b1521
  have b1549 : Bx v1538 q1527 24 #[.bool false, .slice none 0 0] := (E1538.far q1527 b1531.lt (by simp)).trans b1531
  have f1550 := f1491.mono E1538.mono
  have f1551 := f1492.mono E1538.mono
  have f1552 := f1493.mono E1538.mono
  have f1553 := f1494.mono E1538.mono
  have f1554 := f1513.mono E1538.mono
  have f1555 := f1522.mono E1538.mono
  have f1556 := f1532.mono E1538.mono
  have f1557 : Az N v1538 (g1538 0) b := E1538.facts 0 (by decide)
  have e1558 : g1538 1 = (.int .i64 b.sign) := E1538.facts 1 (by decide)
  have e1559 : g1538 2 = (.bool false) := E1538.facts 2 (by decide)
  refine then_normal ?_
  refine wp_cond_false e1559 ?_
  refine wp_skip ?_
  refine then_normal ?_
  refine wp_seq ?_
  have HB : w.heap.size ≤ v1538.heap.size := T1539.size
  refine wp_plan_seq [.val (.az N a), .val (.az N b), .val (.cz (Int.gcd a b : Int)), .new 2 none, .put 7 27] [] [] w.heap.size (by kernel_rfl) (by kernel_rfl) trivial HB ?_ ?_
  · exact ⟨fun s v h => does_val rfl rfl (x_load_z ((h.same 2 rfl).trans p1496) ((h.far q1495 b1545.lt (by simp)).trans b1545)) (f1550.mono h.mono),
      fun s v h => does_val rfl rfl (x_load_z ((h.same 3 rfl).trans p1502) ((h.far q1501 b1546.lt (by simp)).trans b1546)) (f1552.mono h.mono),
      fun s v h => does_call rfl rfl (x_call2 Try.call32) (r2gcd_k (h.dep 0 rfl) (h.dep 1 rfl) (by omega) (by omega)),
      fun s v h => does_new rfl rfl x_alloc_z (okz _ _ _ _) rfl (.inl rfl),
      fun s v h => by obtain ⟨q, e1, e2, e3⟩ := new_at (h.dep 3 rfl); exact does_put_z rfl rfl e1 (h.dep 2 rfl).shape e3 (Nat.le_trans HB e2), trivial⟩
  intro g1560 ts v1560 hts E1560
  simp only [fillL, Nat.reduceAdd, List.setIfInBounds_toArray, List.set_cons_zero, List.set_cons_succ] at hts
  subst hts
  have T1561 : Below w.heap.size w v1560 := T1539.trans E1560.below
  have l1562 : q1495 < v1538.heap.size := b1545.lt
  have l1563 : q1501 < v1538.heap.size := b1546.lt
  have l1564 : q1508 < v1538.heap.size := b1547.lt
  have l1565 : q1517 < v1538.heap.size := b1548.lt
  have l1566 : q1527 < v1538.heap.size := b1549.lt
  have b1567 : Bx v1560 q1495 24 #[.bool na0, .slice A0 n0 c0] := (E1560.far q1495 b1545.lt (by simp)).trans b1545
  have b1568 : Bx v1560 q1501 24 #[.bool na1, .slice A1 n1 c1] := (E1560.far q1501 b1546.lt (by simp)).trans b1546
  have b1569 : Bx v1560 q1508 24 #[.bool false, .slice none 0 0] := (E1560.far q1508 b1547.lt (by simp)).trans b1547
  have b1570 : Bx v1560 q1517 24 #[.bool false, .slice none 0 0] := (E1560.far q1517 b1548.lt (by simp)).trans b1548
  have b1571 : Bx v1560 q1527 24 #[.bool false, .slice none 0 0] := (E1560.far q1527 b1549.lt (by simp)).trans b1549
  have f1572 := f1550.mono E1560.mono
  have f1573 := f1551.mono E1560.mono
  have f1574 := f1552.mono E1560.mono
  have f1575 := f1553.mono E1560.mono
  have f1576 := f1554.mono E1560.mono
  have f1577 := f1555.mono E1560.mono
  have f1578 := f1556.mono E1560.mono
  have f1579 := f1557.mono E1560.mono
  have f1580 : Az N v1560 (g1560 0) a := E1560.facts 0 (by decide)
  have f1581 : Az N v1560 (g1560 1) b := E1560.facts 1 (by decide)
  have f1582 : Cz v1560 (g1560 2) (Int.gcd a b : Int) := E1560.facts 2 (by decide)
  obtain ⟨q1583, p1584, l1585, o1586⟩ : ∃ q, g1560 3 = .pointer (some ⟨q, 0, none⟩) ∧ v1538.heap.size ≤ q ∧ OkB v1560 q 2 := E1560.facts 3 (by decide)
  have h1587 : w.heap.size ≤ q1583 := Nat.le_trans HB l1585
  have n1588 : q1495 ≠ q1583 := by omega
  have n1589 : q1501 ≠ q1583 := by omega
  have n1590 : q1508 ≠ q1583 := by omega
  have n1591 : q1517 ≠ q1583 := by omega
  have n1592 : q1527 ≠ q1583 := by omega
  obtain ⟨t1593, x1595, A1596, m1597, c1598, e1599, b1594⟩ := put_info (E1560.facts 4 (by decide)) p1584 f1582.shape
  have f1600 : Cz v1560 (.agg #[.bool x1595, .slice A1596 m1597 c1598]) (Int.gcd a b : Int) := f1582.at e1599.symm
  refine then_normal ?_
  refine wp_seq ?_
  have HB : w.heap.size ≤ v1560.heap.size := T1561.size
  refine wp_plan_any [.val (.az N a), .val (.cz a), .val (.az N b), .val (.cz b), .new 2 none, .new 2 none, .put 8 29, .put 9 31] [] [] w.heap.size (by kernel_rfl) (by kernel_rfl) (by kernel_rfl) trivial HB ?_ ?_
  · exact ⟨fun s v h => does_val rfl rfl (x_load_z ((h.same 2 rfl).trans p1496) ((h.far q1495 b1567.lt (by simp)).trans b1567)) (f1572.mono ((Mono.drew _).trans h.mono)),
      fun s v h => does_call rfl rfl (x_call1 Try.call48) (r2norm_k (h.dep 0 rfl) (by omega)),
      fun s v h => does_val rfl rfl (x_load_z ((h.same 3 rfl).trans p1502) ((h.far q1501 b1568.lt (by simp)).trans b1568)) (f1574.mono ((Mono.drew _).trans h.mono)),
      fun s v h => does_call rfl rfl (x_call1 Try.call48) (r2norm_k (h.dep 2 rfl) (by omega)),
      fun s v h => does_new rfl rfl x_alloc_z (okz _ _ _ _) rfl (.inl rfl),
      fun s v h => does_new rfl rfl x_alloc_z (okz _ _ _ _) rfl (.inl rfl),
      fun s v h => by obtain ⟨q, e1, e2, e3⟩ := new_at (h.dep 4 rfl); exact does_put_z rfl rfl e1 (h.dep 1 rfl).shape e3 (Nat.le_trans HB e2),
      fun s v h => by obtain ⟨q, e1, e2, e3⟩ := new_at (h.dep 5 rfl); exact does_put_z rfl rfl e1 (h.dep 3 rfl).shape e3 (Nat.le_trans HB e2), trivial⟩
  intro g1601 ts v1601 hts E1601
  simp only [fillL, Nat.reduceAdd, List.setIfInBounds_toArray, List.set_cons_zero, List.set_cons_succ] at hts
  subst hts
  have T1602 : Below w.heap.size w v1601 := (below_toDrew T1561).trans E1601.below
  have l1603 : q1495 < v1560.heap.size := b1567.lt
  have l1604 : q1501 < v1560.heap.size := b1568.lt
  have l1605 : q1508 < v1560.heap.size := b1569.lt
  have l1606 : q1517 < v1560.heap.size := b1570.lt
  have l1607 : q1527 < v1560.heap.size := b1571.lt
  have l1608 : q1583 < v1560.heap.size := b1594.lt
  have b1609 : Bx v1601 q1495 24 #[.bool na0, .slice A0 n0 c0] := (E1601.far q1495 b1567.lt (by simp)).trans b1567
  have b1610 : Bx v1601 q1501 24 #[.bool na1, .slice A1 n1 c1] := (E1601.far q1501 b1568.lt (by simp)).trans b1568
  have b1611 : Bx v1601 q1508 24 #[.bool false, .slice none 0 0] := (E1601.far q1508 b1569.lt (by simp)).trans b1569
  have b1612 : Bx v1601 q1517 24 #[.bool false, .slice none 0 0] := (E1601.far q1517 b1570.lt (by simp)).trans b1570
  have b1613 : Bx v1601 q1527 24 #[.bool false, .slice none 0 0] := (E1601.far q1527 b1571.lt (by simp)).trans b1571
  have b1614 : Bx v1601 q1583 t1593 #[.bool x1595, .slice A1596 m1597 c1598] := (E1601.far q1583 b1594.lt (by simp)).trans b1594
  have f1615 := f1572.mono ((Mono.drew _).trans E1601.mono)
  have f1616 := f1573.mono ((Mono.drew _).trans E1601.mono)
  have f1617 := f1574.mono ((Mono.drew _).trans E1601.mono)
  have f1618 := f1575.mono ((Mono.drew _).trans E1601.mono)
  have f1619 := f1576.mono ((Mono.drew _).trans E1601.mono)
  have f1620 := f1577.mono ((Mono.drew _).trans E1601.mono)
  have f1621 := f1578.mono ((Mono.drew _).trans E1601.mono)
  have f1622 := f1579.mono ((Mono.drew _).trans E1601.mono)
  have f1623 := f1580.mono ((Mono.drew _).trans E1601.mono)
  have f1624 := f1581.mono ((Mono.drew _).trans E1601.mono)
  have f1625 := f1582.mono ((Mono.drew _).trans E1601.mono)
  have f1626 := f1600.mono ((Mono.drew _).trans E1601.mono)
  have f1627 : Az N v1601 (g1601 0) a := E1601.facts 0 (by decide)
  have f1628 : Cz v1601 (g1601 1) a := E1601.facts 1 (by decide)
  have f1629 : Az N v1601 (g1601 2) b := E1601.facts 2 (by decide)
  have f1630 : Cz v1601 (g1601 3) b := E1601.facts 3 (by decide)
  obtain ⟨q1631, p1632, l1633, o1634⟩ : ∃ q, g1601 4 = .pointer (some ⟨q, 0, none⟩) ∧ v1560.heap.size ≤ q ∧ OkB v1601 q 2 := E1601.facts 4 (by decide)
  have h1635 : w.heap.size ≤ q1631 := Nat.le_trans HB l1633
  have n1636 : q1495 ≠ q1631 := by omega
  have n1637 : q1501 ≠ q1631 := by omega
  have n1638 : q1508 ≠ q1631 := by omega
  have n1639 : q1517 ≠ q1631 := by omega
  have n1640 : q1527 ≠ q1631 := by omega
  have n1641 : q1583 ≠ q1631 := by omega
  obtain ⟨q1642, p1643, l1644, o1645⟩ : ∃ q, g1601 5 = .pointer (some ⟨q, 0, none⟩) ∧ v1560.heap.size ≤ q ∧ OkB v1601 q 2 := E1601.facts 5 (by decide)
  have h1646 : w.heap.size ≤ q1642 := Nat.le_trans HB l1644
  have n1647 : q1495 ≠ q1642 := by omega
  have n1648 : q1501 ≠ q1642 := by omega
  have n1649 : q1508 ≠ q1642 := by omega
  have n1650 : q1517 ≠ q1642 := by omega
  have n1651 : q1527 ≠ q1642 := by omega
  have n1652 : q1583 ≠ q1642 := by omega
  have n1653 : q1631 ≠ q1642 := apart_ne (E1601.apart 4 5 (by decide) (by decide) (by decide) ⟨_, _, rfl⟩ ⟨_, _, rfl⟩) p1632 p1643
  obtain ⟨t1654, x1656, A1657, m1658, c1659, e1660, b1655⟩ := put_info (E1601.facts 6 (by decide)) p1632 f1628.shape
  have f1661 : Cz v1601 (.agg #[.bool x1656, .slice A1657 m1658 c1659]) a := f1628.at e1660.symm
  obtain ⟨t1662, x1664, A1665, m1666, c1667, e1668, b1663⟩ := put_info (E1601.facts 7 (by decide)) p1643 f1630.shape
  have f1669 : Cz v1601 (.agg #[.bool x1664, .slice A1665 m1666 c1667]) b := f1630.at e1668.symm
  refine then_normal ?_
  refine wp_seq ?_
  have HB : w.heap.size ≤ v1601.heap.size := T1602.size
  refine wp_plan_seq [.val (.cz 1), .val (.cz 0), .new 2 none, .new 2 none, .put 10 32, .put 11 33] [] [] w.heap.size (by kernel_rfl) (by kernel_rfl) trivial HB ?_ ?_
  · exact ⟨fun s v h => does_call rfl rfl (x_call1 Try.call72) (r2of_k rfl (by decide) (by decide)),
      fun s v h => does_call rfl rfl (x_call1 Try.call72) (r2of_k rfl (by decide) (by decide)),
      fun s v h => does_new rfl rfl x_alloc_z (okz _ _ _ _) rfl (.inl rfl),
      fun s v h => does_new rfl rfl x_alloc_z (okz _ _ _ _) rfl (.inl rfl),
      fun s v h => by obtain ⟨q, e1, e2, e3⟩ := new_at (h.dep 2 rfl); exact does_put_z rfl rfl e1 (h.dep 0 rfl).shape e3 (Nat.le_trans HB e2),
      fun s v h => by obtain ⟨q, e1, e2, e3⟩ := new_at (h.dep 3 rfl); exact does_put_z rfl rfl e1 (h.dep 1 rfl).shape e3 (Nat.le_trans HB e2), trivial⟩
  intro g1670 ts v1670 hts E1670
  simp only [fillL, Nat.reduceAdd, List.setIfInBounds_toArray, List.set_cons_zero, List.set_cons_succ] at hts
  subst hts
  have T1671 : Below w.heap.size w v1670 := T1602.trans E1670.below
  have l1672 : q1495 < v1601.heap.size := b1609.lt
  have l1673 : q1501 < v1601.heap.size := b1610.lt
  have l1674 : q1508 < v1601.heap.size := b1611.lt
  have l1675 : q1517 < v1601.heap.size := b1612.lt
  have l1676 : q1527 < v1601.heap.size := b1613.lt
  have l1677 : q1583 < v1601.heap.size := b1614.lt
  have l1678 : q1631 < v1601.heap.size := b1655.lt
  have l1679 : q1642 < v1601.heap.size := b1663.lt
  have b1680 : Bx v1670 q1495 24 #[.bool na0, .slice A0 n0 c0] := (E1670.far q1495 b1609.lt (by simp)).trans b1609
  have b1681 : Bx v1670 q1501 24 #[.bool na1, .slice A1 n1 c1] := (E1670.far q1501 b1610.lt (by simp)).trans b1610
  have b1682 : Bx v1670 q1508 24 #[.bool false, .slice none 0 0] := (E1670.far q1508 b1611.lt (by simp)).trans b1611
  have b1683 : Bx v1670 q1517 24 #[.bool false, .slice none 0 0] := (E1670.far q1517 b1612.lt (by simp)).trans b1612
  have b1684 : Bx v1670 q1527 24 #[.bool false, .slice none 0 0] := (E1670.far q1527 b1613.lt (by simp)).trans b1613
  have b1685 : Bx v1670 q1583 t1593 #[.bool x1595, .slice A1596 m1597 c1598] := (E1670.far q1583 b1614.lt (by simp)).trans b1614
  have b1686 : Bx v1670 q1631 t1654 #[.bool x1656, .slice A1657 m1658 c1659] := (E1670.far q1631 b1655.lt (by simp)).trans b1655
  have b1687 : Bx v1670 q1642 t1662 #[.bool x1664, .slice A1665 m1666 c1667] := (E1670.far q1642 b1663.lt (by simp)).trans b1663
  have f1688 := f1615.mono E1670.mono
  have f1689 := f1616.mono E1670.mono
  have f1690 := f1617.mono E1670.mono
  have f1691 := f1618.mono E1670.mono
  have f1692 := f1619.mono E1670.mono
  have f1693 := f1620.mono E1670.mono
  have f1694 := f1621.mono E1670.mono
  have f1695 := f1622.mono E1670.mono
  have f1696 := f1623.mono E1670.mono
  have f1697 := f1624.mono E1670.mono
  have f1698 := f1625.mono E1670.mono
  have f1699 := f1626.mono E1670.mono
  have f1700 := f1627.mono E1670.mono
  have f1701 := f1628.mono E1670.mono
  have f1702 := f1629.mono E1670.mono
  have f1703 := f1630.mono E1670.mono
  have f1704 := f1661.mono E1670.mono
  have f1705 := f1669.mono E1670.mono
  have f1706 : Cz v1670 (g1670 0) 1 := E1670.facts 0 (by decide)
  have f1707 : Cz v1670 (g1670 1) 0 := E1670.facts 1 (by decide)
  obtain ⟨q1708, p1709, l1710, o1711⟩ : ∃ q, g1670 2 = .pointer (some ⟨q, 0, none⟩) ∧ v1601.heap.size ≤ q ∧ OkB v1670 q 2 := E1670.facts 2 (by decide)
  have h1712 : w.heap.size ≤ q1708 := Nat.le_trans HB l1710
  have n1713 : q1495 ≠ q1708 := by omega
  have n1714 : q1501 ≠ q1708 := by omega
  have n1715 : q1508 ≠ q1708 := by omega
  have n1716 : q1517 ≠ q1708 := by omega
  have n1717 : q1527 ≠ q1708 := by omega
  have n1718 : q1583 ≠ q1708 := by omega
  have n1719 : q1631 ≠ q1708 := by omega
  have n1720 : q1642 ≠ q1708 := by omega
  obtain ⟨q1721, p1722, l1723, o1724⟩ : ∃ q, g1670 3 = .pointer (some ⟨q, 0, none⟩) ∧ v1601.heap.size ≤ q ∧ OkB v1670 q 2 := E1670.facts 3 (by decide)
  have h1725 : w.heap.size ≤ q1721 := Nat.le_trans HB l1723
  have n1726 : q1495 ≠ q1721 := by omega
  have n1727 : q1501 ≠ q1721 := by omega
  have n1728 : q1508 ≠ q1721 := by omega
  have n1729 : q1517 ≠ q1721 := by omega
  have n1730 : q1527 ≠ q1721 := by omega
  have n1731 : q1583 ≠ q1721 := by omega
  have n1732 : q1631 ≠ q1721 := by omega
  have n1733 : q1642 ≠ q1721 := by omega
  have n1734 : q1708 ≠ q1721 := apart_ne (E1670.apart 2 3 (by decide) (by decide) (by decide) ⟨_, _, rfl⟩ ⟨_, _, rfl⟩) p1709 p1722
  obtain ⟨t1735, x1737, A1738, m1739, c1740, e1741, b1736⟩ := put_info (E1670.facts 4 (by decide)) p1709 f1706.shape
  have f1742 : Cz v1670 (.agg #[.bool x1737, .slice A1738 m1739 c1740]) 1 := f1706.at e1741.symm
  obtain ⟨t1743, x1745, A1746, m1747, c1748, e1749, b1744⟩ := put_info (E1670.facts 5 (by decide)) p1722 f1707.shape
  have f1750 : Cz v1670 (.agg #[.bool x1745, .slice A1746 m1747 c1748]) 0 := f1707.at e1749.symm
  refine then_normal ?_
  refine wp_seq ?_
  refine wp_block ?_
  refine wp_loop_v 82 (fun k y wL => ∃ (r1 : Int) (s1 : Int) (x1 : Int) (u1 : Int) (ty8 : TypeId) (b8_ : Bool) (A8_ : Option Addr) (m8_ c8_ : Nat) (ty9 : TypeId) (b9_ : Bool) (A9_ : Option Addr) (m9_ c9_ : Nat) (ty10 : TypeId) (b10_ : Bool) (A10_ : Option Addr) (m10_ c10_ : Nat) (ty11 : TypeId) (b11_ : Bool) (A11_ : Option Addr) (m11_ c11_ : Nat), y 2 = .pointer (some ⟨q1495, 0, none⟩) ∧ y 3 = .pointer (some ⟨q1501, 0, none⟩) ∧ y 4 = .pointer (some ⟨q1508, 0, none⟩) ∧ y 5 = .pointer (some ⟨q1517, 0, none⟩) ∧ y 6 = .pointer (some ⟨q1527, 0, none⟩) ∧ y 7 = .pointer (some ⟨q1583, 0, none⟩) ∧ y 8 = .pointer (some ⟨q1631, 0, none⟩) ∧ y 9 = .pointer (some ⟨q1642, 0, none⟩) ∧ y 10 = .pointer (some ⟨q1708, 0, none⟩) ∧ y 11 = .pointer (some ⟨q1721, 0, none⟩) ∧ Below w.heap.size w wL ∧ Bx wL q1495 24 #[.bool na0, .slice A0 n0 c0] ∧ Az N wL (.agg #[.bool na0, .slice A0 n0 c0]) a ∧ Bx wL q1501 24 #[.bool na1, .slice A1 n1 c1] ∧ Az N wL (.agg #[.bool na1, .slice A1 n1 c1]) b ∧ Bx wL q1508 24 #[.bool false, .slice none 0 0] ∧ Cz wL (.agg #[.bool false, .slice none 0 0]) 0 ∧ Bx wL q1517 24 #[.bool false, .slice none 0 0] ∧ Cz wL (.agg #[.bool false, .slice none 0 0]) 0 ∧ Bx wL q1527 24 #[.bool false, .slice none 0 0] ∧ Cz wL (.agg #[.bool false, .slice none 0 0]) 0 ∧ Bx wL q1583 t1593 #[.bool x1595, .slice A1596 m1597 c1598] ∧ Cz wL (.agg #[.bool x1595, .slice A1596 m1597 c1598]) (Int.gcd a b : Int) ∧ Bx wL q1631 ty8 #[.bool b8_, .slice A8_ m8_ c8_] ∧ Cz wL (.agg #[.bool b8_, .slice A8_ m8_ c8_]) r1 ∧ Bx wL q1642 ty9 #[.bool b9_, .slice A9_ m9_ c9_] ∧ Cz wL (.agg #[.bool b9_, .slice A9_ m9_ c9_]) s1 ∧ Bx wL q1708 ty10 #[.bool b10_, .slice A10_ m10_ c10_] ∧ Cz wL (.agg #[.bool b10_, .slice A10_ m10_ c10_]) x1 ∧ Bx wL q1721 ty11 #[.bool b11_, .slice A11_ m11_ c11_] ∧ Cz wL (.agg #[.bool b11_, .slice A11_ m11_ c11_]) u1 ∧ BInv a b r1 s1 x1 u1 ∧ k = s1.natAbs) rfl rfl ⟨_, a, b, 1, 0, t1654, x1656, A1657, m1658, c1659, t1662, x1664, A1665, m1666, c1667, t1735, x1737, A1738, m1739, c1740, t1743, x1745, A1746, m1747, c1748, p1496, p1502, p1509, p1518, p1528, p1584, p1632, p1643, p1709, p1722, T1671, b1680, f1688, b1681, f1690, b1682, f1692, b1683, f1693, b1684, f1694, b1685, f1699, b1686, f1704, b1687, f1705, b1736, f1742, b1744, f1750, BInv.start hu, rfl⟩ ?_
  rintro k y1751 v1751 ⟨r1, s1, x1, u1, ty8, b8_, A8_, m8_, c8_, ty9, b9_, A9_, m9_, c9_, ty10, b10_, A10_, m10_, c10_, ty11, b11_, A11_, m11_, c11_, p1752, p1753, p1754, p1755, p1756, p1757, p1758, p1759, p1760, p1761, T1762, b1763, f1764, b1765, f1766, b1767, f1768, b1769, f1770, b1771, f1772, b1773, f1774, b1775, f1776, b1777, f1778, b1779, f1780, b1781, f1782, hJ, hk⟩
  have hlit : litv 82 y1751 = #[y1751 0, y1751 1, y1751 2, y1751 3, y1751 4, y1751 5, y1751 6, y1751 7, y1751 8, y1751 9, y1751 10, y1751 11, y1751 12, y1751 13, y1751 14, y1751 15, y1751 16, y1751 17, y1751 18, y1751 19, y1751 20, y1751 21, y1751 22, y1751 23, y1751 24, y1751 25, y1751 26, y1751 27, y1751 28, y1751 29, y1751 30, y1751 31, y1751 32, y1751 33, y1751 34, y1751 35, y1751 36, y1751 37, y1751 38, y1751 39, y1751 40, y1751 41, y1751 42, y1751 43, y1751 44, y1751 45, y1751 46, y1751 47, y1751 48, y1751 49, y1751 50, y1751 51, y1751 52, y1751 53, y1751 54, y1751 55, y1751 56, y1751 57, y1751 58, y1751 59, y1751 60, y1751 61, y1751 62, y1751 63, y1751 64, y1751 65, y1751 66, y1751 67, y1751 68, y1751 69, y1751 70, y1751 71, y1751 72, y1751 73, y1751 74, y1751 75, y1751 76, y1751 77, y1751 78, y1751 79, y1751 80, y1751 81] := rfl
  rw [hlit]
  clear hlit
  have lr := len_max hJ.rb la0 la1
  have ls := len_le hJ.sb la1
  have lx := len_le hJ.xb la1
  have lu := len_le hJ.ub la1
  by_cases hs : s1 = 0
  · skip
    have d0 : (s1.sign == 0) = true := sign_eq_zero.2 hs
    obtain ⟨hr0, hrg⟩ := (hs ▸ hJ : BInv a b r1 0 x1 u1).last hu
    refine wp_seq ?_
    refine wp_seq ?_
    have HB : w.heap.size ≤ v1751.heap.size := T1762.size
    refine wp_plan_seq [.val (.cz s1), .val (.is (.int .i64 s1.sign)), .val (.is (.bool false))] [] [] w.heap.size (by kernel_rfl) (by kernel_rfl) trivial HB ?_ ?_
    · exact ⟨fun s v h => does_val rfl rfl (x_load_z ((h.same 9 rfl).trans p1759) ((h.far q1642 b1777.lt (by simp)).trans b1777)) (f1778.mono h.mono),
      fun s v h => does_call rfl rfl (x_call1 Try.call28) (r2sign_k ((h.dep 0 rfl).az (N := N) ls) (by omega)),
      fun s v h => does_val rfl rfl (x_neq_int (h.dep 1 rfl) rfl) (congrArg (fun x => Value.bool (!x)) d0), trivial⟩
    intro g1783 ts v1783 hts E1783
    simp only [fillL, Nat.reduceAdd, List.setIfInBounds_toArray, List.set_cons_zero, List.set_cons_succ] at hts
    subst hts
    have T1784 : Below w.heap.size w v1783 := T1762.trans E1783.below
    have l1785 : q1495 < v1751.heap.size := b1763.lt
    have l1786 : q1501 < v1751.heap.size := b1765.lt
    have l1787 : q1508 < v1751.heap.size := b1767.lt
    have l1788 : q1517 < v1751.heap.size := b1769.lt
    have l1789 : q1527 < v1751.heap.size := b1771.lt
    have l1790 : q1583 < v1751.heap.size := b1773.lt
    have l1791 : q1631 < v1751.heap.size := b1775.lt
    have l1792 : q1642 < v1751.heap.size := b1777.lt
    have l1793 : q1708 < v1751.heap.size := b1779.lt
    have l1794 : q1721 < v1751.heap.size := b1781.lt
    have b1795 : Bx v1783 q1495 24 #[.bool na0, .slice A0 n0 c0] := (E1783.far q1495 b1763.lt (by simp)).trans b1763
    have b1796 : Bx v1783 q1501 24 #[.bool na1, .slice A1 n1 c1] := (E1783.far q1501 b1765.lt (by simp)).trans b1765
    have b1797 : Bx v1783 q1508 24 #[.bool false, .slice none 0 0] := (E1783.far q1508 b1767.lt (by simp)).trans b1767
    have b1798 : Bx v1783 q1517 24 #[.bool false, .slice none 0 0] := (E1783.far q1517 b1769.lt (by simp)).trans b1769
    have b1799 : Bx v1783 q1527 24 #[.bool false, .slice none 0 0] := (E1783.far q1527 b1771.lt (by simp)).trans b1771
    have b1800 : Bx v1783 q1583 t1593 #[.bool x1595, .slice A1596 m1597 c1598] := (E1783.far q1583 b1773.lt (by simp)).trans b1773
    have b1801 : Bx v1783 q1631 ty8 #[.bool b8_, .slice A8_ m8_ c8_] := (E1783.far q1631 b1775.lt (by simp)).trans b1775
    have b1802 : Bx v1783 q1642 ty9 #[.bool b9_, .slice A9_ m9_ c9_] := (E1783.far q1642 b1777.lt (by simp)).trans b1777
    have b1803 : Bx v1783 q1708 ty10 #[.bool b10_, .slice A10_ m10_ c10_] := (E1783.far q1708 b1779.lt (by simp)).trans b1779
    have b1804 : Bx v1783 q1721 ty11 #[.bool b11_, .slice A11_ m11_ c11_] := (E1783.far q1721 b1781.lt (by simp)).trans b1781
    have f1805 := f1764.mono E1783.mono
    have f1806 := f1766.mono E1783.mono
    have f1807 := f1768.mono E1783.mono
    have f1808 := f1770.mono E1783.mono
    have f1809 := f1772.mono E1783.mono
    have f1810 := f1774.mono E1783.mono
    have f1811 := f1776.mono E1783.mono
    have f1812 := f1778.mono E1783.mono
    have f1813 := f1780.mono E1783.mono
    have f1814 := f1782.mono E1783.mono
    have f1815 : Cz v1783 (g1783 0) s1 := E1783.facts 0 (by decide)
    have e1816 : g1783 1 = (.int .i64 s1.sign) := E1783.facts 1 (by decide)
    have e1817 : g1783 2 = (.bool false) := E1783.facts 2 (by decide)
    refine then_normal ?_
    refine wp_cond_false e1817 ?_
    refine wp_exit ?_
    refine exit_then ?_
    refine exit_then ?_
    refine exit_block ?_
    refine then_normal ?_
    refine wp_seq ?_
    refine wp_seq ?_
    have HB : w.heap.size ≤ v1783.heap.size := T1784.size
    refine wp_plan_seq [.val (.cz r1), .val (.is (.int .i64 r1.sign)), .val (.is (.bool (decide (r1.sign < 0))))] [] [] w.heap.size (by kernel_rfl) (by kernel_rfl) trivial HB ?_ ?_
    · exact ⟨fun s v h => does_val rfl rfl (x_load_z ((h.same 8 rfl).trans p1758) ((h.far q1631 b1801.lt (by simp)).trans b1801)) (f1811.mono h.mono),
      fun s v h => does_call rfl rfl (x_call1 Try.call28) (r2sign_k ((h.dep 0 rfl).az (N := N) lr) (by omega)),
      fun s v h => does_val rfl rfl (x_lss (h.dep 1 rfl) rfl) rfl, trivial⟩
    intro g1818 ts v1818 hts E1818
    simp only [fillL, Nat.reduceAdd, List.setIfInBounds_toArray, List.set_cons_zero, List.set_cons_succ] at hts
    subst hts
    have T1819 : Below w.heap.size w v1818 := T1784.trans E1818.below
    have l1820 : q1495 < v1783.heap.size := b1795.lt
    have l1821 : q1501 < v1783.heap.size := b1796.lt
    have l1822 : q1508 < v1783.heap.size := b1797.lt
    have l1823 : q1517 < v1783.heap.size := b1798.lt
    have l1824 : q1527 < v1783.heap.size := b1799.lt
    have l1825 : q1583 < v1783.heap.size := b1800.lt
    have l1826 : q1631 < v1783.heap.size := b1801.lt
    have l1827 : q1642 < v1783.heap.size := b1802.lt
    have l1828 : q1708 < v1783.heap.size := b1803.lt
    have l1829 : q1721 < v1783.heap.size := b1804.lt
    have b1830 : Bx v1818 q1495 24 #[.bool na0, .slice A0 n0 c0] := (E1818.far q1495 b1795.lt (by simp)).trans b1795
    have b1831 : Bx v1818 q1501 24 #[.bool na1, .slice A1 n1 c1] := (E1818.far q1501 b1796.lt (by simp)).trans b1796
    have b1832 : Bx v1818 q1508 24 #[.bool false, .slice none 0 0] := (E1818.far q1508 b1797.lt (by simp)).trans b1797
    have b1833 : Bx v1818 q1517 24 #[.bool false, .slice none 0 0] := (E1818.far q1517 b1798.lt (by simp)).trans b1798
    have b1834 : Bx v1818 q1527 24 #[.bool false, .slice none 0 0] := (E1818.far q1527 b1799.lt (by simp)).trans b1799
    have b1835 : Bx v1818 q1583 t1593 #[.bool x1595, .slice A1596 m1597 c1598] := (E1818.far q1583 b1800.lt (by simp)).trans b1800
    have b1836 : Bx v1818 q1631 ty8 #[.bool b8_, .slice A8_ m8_ c8_] := (E1818.far q1631 b1801.lt (by simp)).trans b1801
    have b1837 : Bx v1818 q1642 ty9 #[.bool b9_, .slice A9_ m9_ c9_] := (E1818.far q1642 b1802.lt (by simp)).trans b1802
    have b1838 : Bx v1818 q1708 ty10 #[.bool b10_, .slice A10_ m10_ c10_] := (E1818.far q1708 b1803.lt (by simp)).trans b1803
    have b1839 : Bx v1818 q1721 ty11 #[.bool b11_, .slice A11_ m11_ c11_] := (E1818.far q1721 b1804.lt (by simp)).trans b1804
    have f1840 := f1805.mono E1818.mono
    have f1841 := f1806.mono E1818.mono
    have f1842 := f1807.mono E1818.mono
    have f1843 := f1808.mono E1818.mono
    have f1844 := f1809.mono E1818.mono
    have f1845 := f1810.mono E1818.mono
    have f1846 := f1811.mono E1818.mono
    have f1847 := f1812.mono E1818.mono
    have f1848 := f1813.mono E1818.mono
    have f1849 := f1814.mono E1818.mono
    have f1850 := f1815.mono E1818.mono
    have f1851 : Cz v1818 (g1818 0) r1 := E1818.facts 0 (by decide)
    have e1852 : g1818 1 = (.int .i64 r1.sign) := E1818.facts 1 (by decide)
    have e1853 : g1818 2 = (.bool (decide (r1.sign < 0))) := E1818.facts 2 (by decide)
    refine then_normal ?_
    rcases h1854 : (decide (r1.sign < 0)) with _ | _
    · skip
      have hr : 0 < r1 := by have := Int.sign_nonneg_iff.1 (show 0 ≤ r1.sign by have := of_decide_eq_false h1854; omega); omega
      obtain ⟨E1, hst, E2⟩ := bez_fin hu hr hrg hJ.px
      rw [E1] at hst E2
      have hg0 : (Int.gcd a b : Int) ≠ 0 := by omega
      refine wp_cond_false (e1853.trans (congrArg Value.bool h1854)) ?_
      refine wp_skip ?_
      refine then_normal ?_
      refine wp_seq ?_
      have HB : w.heap.size ≤ v1818.heap.size := T1819.size
      refine wp_plan_any [.val (.az N b), .val (.cz (b.natAbs : Int)), .val (.cz (Int.gcd a b : Int)), .val (.tup2 (.cz (fl (b.natAbs : Int) (Int.gcd a b : Int))) (.cz (md (b.natAbs : Int) (Int.gcd a b : Int)))), .val (.tup2 (.cz (fl (b.natAbs : Int) (Int.gcd a b : Int))) (.cz (md (b.natAbs : Int) (Int.gcd a b : Int)))), .val (.cz (fl (b.natAbs : Int) (Int.gcd a b : Int))), .val (.cz (md (b.natAbs : Int) (Int.gcd a b : Int))), .new 2 none, .new 2 none, .put 14 61, .put 15 62] [] [] w.heap.size (by kernel_rfl) (by kernel_rfl) (by kernel_rfl) trivial HB ?_ ?_
      · exact ⟨fun s v h => does_val rfl rfl (x_load_z ((h.same 3 rfl).trans p1753) ((h.far q1501 b1831.lt (by simp)).trans b1831)) (f1841.mono ((Mono.drew _).trans h.mono)),
      fun s v h => does_call rfl rfl (x_call1 Try.call50) (r2abs_k (h.dep 0 rfl) (by omega)),
      fun s v h => does_val rfl rfl (x_load_z ((h.same 7 rfl).trans p1757) ((h.far q1583 b1835.lt (by simp)).trans b1835)) (f1845.mono ((Mono.drew _).trans h.mono)),
      fun s v h => does_call rfl rfl (x_call2 Try.call29) (r2floor_k ((h.dep 1 rfl).az (N := N) (len_abs la1)) ((h.dep 2 rfl).az (N := N) (gcd_len hu la1)) (by omega) (by omega) hg0),
      fun s v h => does_val rfl rfl (x_move) (h.dep 3 rfl),
      fun s v h => by obtain ⟨r0, r1, e, f0, f1⟩ := tup2_at (h.dep 4 rfl); exact does_val rfl rfl (x_ext e rfl) f0,
      fun s v h => by obtain ⟨r0, r1, e, f0, f1⟩ := tup2_at (h.dep 4 rfl); exact does_val rfl rfl (x_ext e rfl) f1,
      fun s v h => does_new rfl rfl x_alloc_z (okz _ _ _ _) rfl (.inl rfl),
      fun s v h => does_new rfl rfl x_alloc_z (okz _ _ _ _) rfl (.inl rfl),
      fun s v h => by obtain ⟨q, e1, e2, e3⟩ := new_at (h.dep 7 rfl); exact does_put_z rfl rfl e1 (h.dep 5 rfl).shape e3 (Nat.le_trans HB e2),
      fun s v h => by obtain ⟨q, e1, e2, e3⟩ := new_at (h.dep 8 rfl); exact does_put_z rfl rfl e1 (h.dep 6 rfl).shape e3 (Nat.le_trans HB e2), trivial⟩
      intro g1855 ts v1855 hts E1855
      simp only [fillL, Nat.reduceAdd, List.setIfInBounds_toArray, List.set_cons_zero, List.set_cons_succ] at hts
      subst hts
      have T1856 : Below w.heap.size w v1855 := (below_toDrew T1819).trans E1855.below
      have l1857 : q1495 < v1818.heap.size := b1830.lt
      have l1858 : q1501 < v1818.heap.size := b1831.lt
      have l1859 : q1508 < v1818.heap.size := b1832.lt
      have l1860 : q1517 < v1818.heap.size := b1833.lt
      have l1861 : q1527 < v1818.heap.size := b1834.lt
      have l1862 : q1583 < v1818.heap.size := b1835.lt
      have l1863 : q1631 < v1818.heap.size := b1836.lt
      have l1864 : q1642 < v1818.heap.size := b1837.lt
      have l1865 : q1708 < v1818.heap.size := b1838.lt
      have l1866 : q1721 < v1818.heap.size := b1839.lt
      have b1867 : Bx v1855 q1495 24 #[.bool na0, .slice A0 n0 c0] := (E1855.far q1495 b1830.lt (by simp)).trans b1830
      have b1868 : Bx v1855 q1501 24 #[.bool na1, .slice A1 n1 c1] := (E1855.far q1501 b1831.lt (by simp)).trans b1831
      have b1869 : Bx v1855 q1508 24 #[.bool false, .slice none 0 0] := (E1855.far q1508 b1832.lt (by simp)).trans b1832
      have b1870 : Bx v1855 q1517 24 #[.bool false, .slice none 0 0] := (E1855.far q1517 b1833.lt (by simp)).trans b1833
      have b1871 : Bx v1855 q1527 24 #[.bool false, .slice none 0 0] := (E1855.far q1527 b1834.lt (by simp)).trans b1834
      have b1872 : Bx v1855 q1583 t1593 #[.bool x1595, .slice A1596 m1597 c1598] := (E1855.far q1583 b1835.lt (by simp)).trans b1835
      have b1873 : Bx v1855 q1631 ty8 #[.bool b8_, .slice A8_ m8_ c8_] := (E1855.far q1631 b1836.lt (by simp)).trans b1836
      have b1874 : Bx v1855 q1642 ty9 #[.bool b9_, .slice A9_ m9_ c9_] := (E1855.far q1642 b1837.lt (by simp)).trans b1837
      have b1875 : Bx v1855 q1708 ty10 #[.bool b10_, .slice A10_ m10_ c10_] := (E1855.far q1708 b1838.lt (by simp)).trans b1838
      have b1876 : Bx v1855 q1721 ty11 #[.bool b11_, .slice A11_ m11_ c11_] := (E1855.far q1721 b1839.lt (by simp)).trans b1839
      have f1877 := f1840.mono ((Mono.drew _).trans E1855.mono)
      have f1878 := f1841.mono ((Mono.drew _).trans E1855.mono)
      have f1879 := f1842.mono ((Mono.drew _).trans E1855.mono)
      have f1880 := f1843.mono ((Mono.drew _).trans E1855.mono)
      have f1881 := f1844.mono ((Mono.drew _).trans E1855.mono)
      have f1882 := f1845.mono ((Mono.drew _).trans E1855.mono)
      have f1883 := f1846.mono ((Mono.drew _).trans E1855.mono)
      have f1884 := f1847.mono ((Mono.drew _).trans E1855.mono)
      have f1885 := f1848.mono ((Mono.drew _).trans E1855.mono)
      have f1886 := f1849.mono ((Mono.drew _).trans E1855.mono)
      have f1887 := f1850.mono ((Mono.drew _).trans E1855.mono)
      have f1888 := f1851.mono ((Mono.drew _).trans E1855.mono)
      have f1889 : Az N v1855 (g1855 0) b := E1855.facts 0 (by decide)
      have f1890 : Cz v1855 (g1855 1) (b.natAbs : Int) := E1855.facts 1 (by decide)
      have f1891 : Cz v1855 (g1855 2) (Int.gcd a b : Int) := E1855.facts 2 (by decide)
      have f1892 : Cz v1855 (g1855 5) (fl (b.natAbs : Int) (Int.gcd a b : Int)) := E1855.facts 5 (by decide)
      have f1893 : Cz v1855 (g1855 6) (md (b.natAbs : Int) (Int.gcd a b : Int)) := E1855.facts 6 (by decide)
      obtain ⟨q1894, p1895, l1896, o1897⟩ : ∃ q, g1855 7 = .pointer (some ⟨q, 0, none⟩) ∧ v1818.heap.size ≤ q ∧ OkB v1855 q 2 := E1855.facts 7 (by decide)
      have h1898 : w.heap.size ≤ q1894 := Nat.le_trans HB l1896
      have n1899 : q1495 ≠ q1894 := by omega
      have n1900 : q1501 ≠ q1894 := by omega
      have n1901 : q1508 ≠ q1894 := by omega
      have n1902 : q1517 ≠ q1894 := by omega
      have n1903 : q1527 ≠ q1894 := by omega
      have n1904 : q1583 ≠ q1894 := by omega
      have n1905 : q1631 ≠ q1894 := by omega
      have n1906 : q1642 ≠ q1894 := by omega
      have n1907 : q1708 ≠ q1894 := by omega
      have n1908 : q1721 ≠ q1894 := by omega
      obtain ⟨q1909, p1910, l1911, o1912⟩ : ∃ q, g1855 8 = .pointer (some ⟨q, 0, none⟩) ∧ v1818.heap.size ≤ q ∧ OkB v1855 q 2 := E1855.facts 8 (by decide)
      have h1913 : w.heap.size ≤ q1909 := Nat.le_trans HB l1911
      have n1914 : q1495 ≠ q1909 := by omega
      have n1915 : q1501 ≠ q1909 := by omega
      have n1916 : q1508 ≠ q1909 := by omega
      have n1917 : q1517 ≠ q1909 := by omega
      have n1918 : q1527 ≠ q1909 := by omega
      have n1919 : q1583 ≠ q1909 := by omega
      have n1920 : q1631 ≠ q1909 := by omega
      have n1921 : q1642 ≠ q1909 := by omega
      have n1922 : q1708 ≠ q1909 := by omega
      have n1923 : q1721 ≠ q1909 := by omega
      have n1924 : q1894 ≠ q1909 := apart_ne (E1855.apart 7 8 (by decide) (by decide) (by decide) ⟨_, _, rfl⟩ ⟨_, _, rfl⟩) p1895 p1910
      obtain ⟨t1925, x1927, A1928, m1929, c1930, e1931, b1926⟩ := put_info (E1855.facts 9 (by decide)) p1895 f1892.shape
      have f1932 : Cz v1855 (.agg #[.bool x1927, .slice A1928 m1929 c1930]) (fl (b.natAbs : Int) (Int.gcd a b : Int)) := f1892.at e1931.symm
      obtain ⟨t1933, x1935, A1936, m1937, c1938, e1939, b1934⟩ := put_info (E1855.facts 10 (by decide)) p1910 f1893.shape
      have f1940 : Cz v1855 (.agg #[.bool x1935, .slice A1936 m1937 c1938]) (md (b.natAbs : Int) (Int.gcd a b : Int)) := f1893.at e1939.symm
      refine then_normal ?_
      refine wp_seq ?_
      have HB : w.heap.size ≤ v1855.heap.size := T1856.size
      refine wp_plan_seq [.val (.cz x1), .val (.cz (fl (b.natAbs : Int) (Int.gcd a b : Int))), .val (.tup2 (.cz (fl x1 (fl (b.natAbs : Int) (Int.gcd a b : Int)))) (.cz (md x1 (fl (b.natAbs : Int) (Int.gcd a b : Int))))), .val (.tup2 (.cz (fl x1 (fl (b.natAbs : Int) (Int.gcd a b : Int)))) (.cz (md x1 (fl (b.natAbs : Int) (Int.gcd a b : Int))))), .val (.cz (fl x1 (fl (b.natAbs : Int) (Int.gcd a b : Int)))), .val (.cz (md x1 (fl (b.natAbs : Int) (Int.gcd a b : Int)))), .put 10 68] [10] [q1708] w.heap.size (by kernel_rfl) (by kernel_rfl) ⟨p1760, b1875.lt, (by simp), trivial⟩ HB ?_ ?_
      · exact ⟨fun s v h => does_val rfl rfl (x_load_z ((h.same 10 rfl).trans p1760) ((h.held 6 10 68 _ rfl rfl rfl p1760).trans b1875)) (f1885.mono h.mono),
      fun s v h => does_val rfl rfl (x_load_z ((h.same 14 rfl).trans p1895) ((h.far q1894 b1926.lt (nin1 n1907.symm)).trans b1926)) (f1932.mono h.mono),
      fun s v h => does_call rfl rfl (x_call2 Try.call29) (r2floor_k ((h.dep 0 rfl).az (N := N) lx) ((h.dep 1 rfl).az (N := (N + 1)) (fl_len (len_abs la1))) (by omega) (by omega) hst),
      fun s v h => does_val rfl rfl (x_move) (h.dep 2 rfl),
      fun s v h => by obtain ⟨r0, r1, e, f0, f1⟩ := tup2_at (h.dep 3 rfl); exact does_val rfl rfl (x_ext e rfl) f0,
      fun s v h => by obtain ⟨r0, r1, e, f0, f1⟩ := tup2_at (h.dep 3 rfl); exact does_val rfl rfl (x_ext e rfl) f1,
      fun s v h => does_put_z rfl rfl ((h.same 10 rfl).trans p1760) (h.dep 5 rfl).shape (h.mono.ok _ _ b1875.ok2) h1712, trivial⟩
      intro g1941 ts v1941 hts E1941
      simp only [fillL, Nat.reduceAdd, List.setIfInBounds_toArray, List.set_cons_zero, List.set_cons_succ] at hts
      subst hts
      have T1942 : Below w.heap.size w v1941 := T1856.trans E1941.below
      have l1943 : q1495 < v1855.heap.size := b1867.lt
      have l1944 : q1501 < v1855.heap.size := b1868.lt
      have l1945 : q1508 < v1855.heap.size := b1869.lt
      have l1946 : q1517 < v1855.heap.size := b1870.lt
      have l1947 : q1527 < v1855.heap.size := b1871.lt
      have l1948 : q1583 < v1855.heap.size := b1872.lt
      have l1949 : q1631 < v1855.heap.size := b1873.lt
      have l1950 : q1642 < v1855.heap.size := b1874.lt
      have l1951 : q1708 < v1855.heap.size := b1875.lt
      have l1952 : q1721 < v1855.heap.size := b1876.lt
      have l1953 : q1894 < v1855.heap.size := b1926.lt
      have l1954 : q1909 < v1855.heap.size := b1934.lt
      have b1955 : Bx v1941 q1495 24 #[.bool na0, .slice A0 n0 c0] := (E1941.far q1495 b1867.lt (nin1 n1713)).trans b1867
      have b1956 : Bx v1941 q1501 24 #[.bool na1, .slice A1 n1 c1] := (E1941.far q1501 b1868.lt (nin1 n1714)).trans b1868
      have b1957 : Bx v1941 q1508 24 #[.bool false, .slice none 0 0] := (E1941.far q1508 b1869.lt (nin1 n1715)).trans b1869
      have b1958 : Bx v1941 q1517 24 #[.bool false, .slice none 0 0] := (E1941.far q1517 b1870.lt (nin1 n1716)).trans b1870
      have b1959 : Bx v1941 q1527 24 #[.bool false, .slice none 0 0] := (E1941.far q1527 b1871.lt (nin1 n1717)).trans b1871
      have b1960 : Bx v1941 q1583 t1593 #[.bool x1595, .slice A1596 m1597 c1598] := (E1941.far q1583 b1872.lt (nin1 n1718)).trans b1872
      have b1961 : Bx v1941 q1631 ty8 #[.bool b8_, .slice A8_ m8_ c8_] := (E1941.far q1631 b1873.lt (nin1 n1719)).trans b1873
      have b1962 : Bx v1941 q1642 ty9 #[.bool b9_, .slice A9_ m9_ c9_] := (E1941.far q1642 b1874.lt (nin1 n1720)).trans b1874
      have b1963 : Bx v1941 q1721 ty11 #[.bool b11_, .slice A11_ m11_ c11_] := (E1941.far q1721 b1876.lt (nin1 n1734.symm)).trans b1876
      have b1964 : Bx v1941 q1894 t1925 #[.bool x1927, .slice A1928 m1929 c1930] := (E1941.far q1894 b1926.lt (nin1 n1907.symm)).trans b1926
      have b1965 : Bx v1941 q1909 t1933 #[.bool x1935, .slice A1936 m1937 c1938] := (E1941.far q1909 b1934.lt (nin1 n1922.symm)).trans b1934
      have f1966 := f1877.mono E1941.mono
      have f1967 := f1878.mono E1941.mono
      have f1968 := f1879.mono E1941.mono
      have f1969 := f1880.mono E1941.mono
      have f1970 := f1881.mono E1941.mono
      have f1971 := f1882.mono E1941.mono
      have f1972 := f1883.mono E1941.mono
      have f1973 := f1884.mono E1941.mono
      have f1974 := f1885.mono E1941.mono
      have f1975 := f1886.mono E1941.mono
      have f1976 := f1887.mono E1941.mono
      have f1977 := f1888.mono E1941.mono
      have f1978 := f1889.mono E1941.mono
      have f1979 := f1890.mono E1941.mono
      have f1980 := f1891.mono E1941.mono
      have f1981 := f1892.mono E1941.mono
      have f1982 := f1893.mono E1941.mono
      have f1983 := f1932.mono E1941.mono
      have f1984 := f1940.mono E1941.mono
      have f1985 : Cz v1941 (g1941 0) x1 := E1941.facts 0 (by decide)
      have f1986 : Cz v1941 (g1941 1) (fl (b.natAbs : Int) (Int.gcd a b : Int)) := E1941.facts 1 (by decide)
      have f1987 : Cz v1941 (g1941 4) (fl x1 (fl (b.natAbs : Int) (Int.gcd a b : Int))) := E1941.facts 4 (by decide)
      have f1988 : Cz v1941 (g1941 5) (md x1 (fl (b.natAbs : Int) (Int.gcd a b : Int))) := E1941.facts 5 (by decide)
      obtain ⟨t1989, x1991, A1992, m1993, c1994, e1995, b1990⟩ := put_info (E1941.facts 6 (by decide)) p1760 f1988.shape
      have f1996 : Cz v1941 (.agg #[.bool x1991, .slice A1992 m1993 c1994]) (md x1 (fl (b.natAbs : Int) (Int.gcd a b : Int))) := f1988.at e1995.symm
      refine then_normal ?_
      refine wp_seq ?_
      have HB : w.heap.size ≤ v1941.heap.size := T1942.size
      refine wp_plan_any [.val (.cz (Int.gcd a b : Int)), .val (.cz (md x1 (fl (b.natAbs : Int) (Int.gcd a b : Int)))), .val (.az N a), .val (.cz ((md x1 (fl (b.natAbs : Int) (Int.gcd a b : Int))) * a)), .val (.cz ((Int.gcd a b : Int) - ((md x1 (fl (b.natAbs : Int) (Int.gcd a b : Int))) * a))), .val (.az N b), .val (.tup2 (.cz (fl ((Int.gcd a b : Int) - ((md x1 (fl (b.natAbs : Int) (Int.gcd a b : Int))) * a)) b)) (.cz (md ((Int.gcd a b : Int) - ((md x1 (fl (b.natAbs : Int) (Int.gcd a b : Int))) * a)) b))), .val (.tup2 (.cz (fl ((Int.gcd a b : Int) - ((md x1 (fl (b.natAbs : Int) (Int.gcd a b : Int))) * a)) b)) (.cz (md ((Int.gcd a b : Int) - ((md x1 (fl (b.natAbs : Int) (Int.gcd a b : Int))) * a)) b))), .val (.cz (fl ((Int.gcd a b : Int) - ((md x1 (fl (b.natAbs : Int) (Int.gcd a b : Int))) * a)) b)), .val (.cz (md ((Int.gcd a b : Int) - ((md x1 (fl (b.natAbs : Int) (Int.gcd a b : Int))) * a)) b)), .put 11 77] [11] [q1721] w.heap.size (by kernel_rfl) (by kernel_rfl) (by kernel_rfl) ⟨p1761, b1963.lt, (by simp), trivial⟩ HB ?_ ?_
      · exact ⟨fun s v h => does_val rfl rfl (x_load_z ((h.same 7 rfl).trans p1757) ((h.far q1583 b1960.lt (nin1 n1731)).trans b1960)) (f1971.mono ((Mono.drew _).trans h.mono)),
      fun s v h => does_val rfl rfl (x_load_z ((h.same 10 rfl).trans p1760) ((h.far q1708 b1990.lt (nin1 n1734)).trans b1990)) (f1996.mono ((Mono.drew _).trans h.mono)),
      fun s v h => does_val rfl rfl (x_load_z ((h.same 2 rfl).trans p1752) ((h.far q1495 b1955.lt (nin1 n1726)).trans b1955)) (f1966.mono ((Mono.drew _).trans h.mono)),
      fun s v h => does_call rfl rfl (x_call2 Try.call71) (r2mul_k ((h.dep 1 rfl).az (N := (N + 1)) (md_len hst (fl_len (len_abs la1)))) (h.dep 2 rfl) (by omega)),
      fun s v h => does_call rfl rfl (x_call2 Try.call70) (r2sub_k ((h.dep 0 rfl).az (N := N) (gcd_len hu la1)) ((h.dep 3 rfl).az (N := ((N + 1) + N)) (len_mul (md_len hst (fl_len (len_abs la1))) la0)) (by omega) (by omega)),
      fun s v h => does_val rfl rfl (x_load_z ((h.same 3 rfl).trans p1753) ((h.far q1501 b1956.lt (nin1 n1727)).trans b1956)) (f1967.mono ((Mono.drew _).trans h.mono)),
      fun s v h => does_call rfl rfl (x_call2 Try.call29) (r2floor_k ((h.dep 4 rfl).az (N := (max N ((N + 1) + N) + 1)) (len_sub' (n := (max N ((N + 1) + N) + 1)) (gcd_len hu la1) (len_mul (md_len hst (fl_len (len_abs la1))) la0) (by omega) (by omega))) (h.dep 5 rfl) (by omega) (by omega) hu),
      fun s v h => does_val rfl rfl (x_move) (h.dep 6 rfl),
      fun s v h => by obtain ⟨r0, r1, e, f0, f1⟩ := tup2_at (h.dep 7 rfl); exact does_val rfl rfl (x_ext e rfl) f0,
      fun s v h => by obtain ⟨r0, r1, e, f0, f1⟩ := tup2_at (h.dep 7 rfl); exact does_val rfl rfl (x_ext e rfl) f1,
      fun s v h => does_put_z rfl rfl ((h.same 11 rfl).trans p1761) (h.dep 8 rfl).shape (((Mono.drew _).trans h.mono).ok _ _ b1963.ok2) h1725, trivial⟩
      intro g1997 ts v1997 hts E1997
      simp only [fillL, Nat.reduceAdd, List.setIfInBounds_toArray, List.set_cons_zero, List.set_cons_succ] at hts
      subst hts
      have T1998 : Below w.heap.size w v1997 := (below_toDrew T1942).trans E1997.below
      have l1999 : q1495 < v1941.heap.size := b1955.lt
      have l2000 : q1501 < v1941.heap.size := b1956.lt
      have l2001 : q1508 < v1941.heap.size := b1957.lt
      have l2002 : q1517 < v1941.heap.size := b1958.lt
      have l2003 : q1527 < v1941.heap.size := b1959.lt
      have l2004 : q1583 < v1941.heap.size := b1960.lt
      have l2005 : q1631 < v1941.heap.size := b1961.lt
      have l2006 : q1642 < v1941.heap.size := b1962.lt
      have l2007 : q1708 < v1941.heap.size := b1990.lt
      have l2008 : q1721 < v1941.heap.size := b1963.lt
      have l2009 : q1894 < v1941.heap.size := b1964.lt
      have l2010 : q1909 < v1941.heap.size := b1965.lt
      have b2011 : Bx v1997 q1495 24 #[.bool na0, .slice A0 n0 c0] := (E1997.far q1495 b1955.lt (nin1 n1726)).trans b1955
      have b2012 : Bx v1997 q1501 24 #[.bool na1, .slice A1 n1 c1] := (E1997.far q1501 b1956.lt (nin1 n1727)).trans b1956
      have b2013 : Bx v1997 q1508 24 #[.bool false, .slice none 0 0] := (E1997.far q1508 b1957.lt (nin1 n1728)).trans b1957
      have b2014 : Bx v1997 q1517 24 #[.bool false, .slice none 0 0] := (E1997.far q1517 b1958.lt (nin1 n1729)).trans b1958
      have b2015 : Bx v1997 q1527 24 #[.bool false, .slice none 0 0] := (E1997.far q1527 b1959.lt (nin1 n1730)).trans b1959
      have b2016 : Bx v1997 q1583 t1593 #[.bool x1595, .slice A1596 m1597 c1598] := (E1997.far q1583 b1960.lt (nin1 n1731)).trans b1960
      have b2017 : Bx v1997 q1631 ty8 #[.bool b8_, .slice A8_ m8_ c8_] := (E1997.far q1631 b1961.lt (nin1 n1732)).trans b1961
      have b2018 : Bx v1997 q1642 ty9 #[.bool b9_, .slice A9_ m9_ c9_] := (E1997.far q1642 b1962.lt (nin1 n1733)).trans b1962
      have b2019 : Bx v1997 q1708 t1989 #[.bool x1991, .slice A1992 m1993 c1994] := (E1997.far q1708 b1990.lt (nin1 n1734)).trans b1990
      have b2020 : Bx v1997 q1894 t1925 #[.bool x1927, .slice A1928 m1929 c1930] := (E1997.far q1894 b1964.lt (nin1 n1908.symm)).trans b1964
      have b2021 : Bx v1997 q1909 t1933 #[.bool x1935, .slice A1936 m1937 c1938] := (E1997.far q1909 b1965.lt (nin1 n1923.symm)).trans b1965
      have f2022 := f1966.mono ((Mono.drew _).trans E1997.mono)
      have f2023 := f1967.mono ((Mono.drew _).trans E1997.mono)
      have f2024 := f1968.mono ((Mono.drew _).trans E1997.mono)
      have f2025 := f1969.mono ((Mono.drew _).trans E1997.mono)
      have f2026 := f1970.mono ((Mono.drew _).trans E1997.mono)
      have f2027 := f1971.mono ((Mono.drew _).trans E1997.mono)
      have f2028 := f1972.mono ((Mono.drew _).trans E1997.mono)
      have f2029 := f1973.mono ((Mono.drew _).trans E1997.mono)
      have f2030 := f1974.mono ((Mono.drew _).trans E1997.mono)
      have f2031 := f1975.mono ((Mono.drew _).trans E1997.mono)
      have f2032 := f1976.mono ((Mono.drew _).trans E1997.mono)
      have f2033 := f1977.mono ((Mono.drew _).trans E1997.mono)
      have f2034 := f1978.mono ((Mono.drew _).trans E1997.mono)
      have f2035 := f1979.mono ((Mono.drew _).trans E1997.mono)
      have f2036 := f1980.mono ((Mono.drew _).trans E1997.mono)
      have f2037 := f1981.mono ((Mono.drew _).trans E1997.mono)
      have f2038 := f1982.mono ((Mono.drew _).trans E1997.mono)
      have f2039 := f1983.mono ((Mono.drew _).trans E1997.mono)
      have f2040 := f1984.mono ((Mono.drew _).trans E1997.mono)
      have f2041 := f1985.mono ((Mono.drew _).trans E1997.mono)
      have f2042 := f1986.mono ((Mono.drew _).trans E1997.mono)
      have f2043 := f1987.mono ((Mono.drew _).trans E1997.mono)
      have f2044 := f1988.mono ((Mono.drew _).trans E1997.mono)
      have f2045 := f1996.mono ((Mono.drew _).trans E1997.mono)
      have f2046 : Cz v1997 (g1997 0) (Int.gcd a b : Int) := E1997.facts 0 (by decide)
      have f2047 : Cz v1997 (g1997 1) (md x1 (fl (b.natAbs : Int) (Int.gcd a b : Int))) := E1997.facts 1 (by decide)
      have f2048 : Az N v1997 (g1997 2) a := E1997.facts 2 (by decide)
      have f2049 : Cz v1997 (g1997 3) ((md x1 (fl (b.natAbs : Int) (Int.gcd a b : Int))) * a) := E1997.facts 3 (by decide)
      have f2050 : Cz v1997 (g1997 4) ((Int.gcd a b : Int) - ((md x1 (fl (b.natAbs : Int) (Int.gcd a b : Int))) * a)) := E1997.facts 4 (by decide)
      have f2051 : Az N v1997 (g1997 5) b := E1997.facts 5 (by decide)
      have f2052 : Cz v1997 (g1997 8) (fl ((Int.gcd a b : Int) - ((md x1 (fl (b.natAbs : Int) (Int.gcd a b : Int))) * a)) b) := E1997.facts 8 (by decide)
      have f2053 : Cz v1997 (g1997 9) (md ((Int.gcd a b : Int) - ((md x1 (fl (b.natAbs : Int) (Int.gcd a b : Int))) * a)) b) := E1997.facts 9 (by decide)
      obtain ⟨t2054, x2056, A2057, m2058, c2059, e2060, b2055⟩ := put_info (E1997.facts 10 (by decide)) p1761 f2052.shape
      have f2061 : Cz v1997 (.agg #[.bool x2056, .slice A2057 m2058 c2059]) (fl ((Int.gcd a b : Int) - ((md x1 (fl (b.natAbs : Int) (Int.gcd a b : Int))) * a)) b) := f2052.at e2060.symm
      refine then_normal ?_
      refine wp_seq ?_
      have HB : w.heap.size ≤ v1997.heap.size := T1998.size
      refine wp_plan_any [.val (.cz (Int.gcd a b : Int)), .val (.cz (md x1 (fl (b.natAbs : Int) (Int.gcd a b : Int)))), .val (.cz (fl ((Int.gcd a b : Int) - ((md x1 (fl (b.natAbs : Int) (Int.gcd a b : Int))) * a)) b)), .put 4 79, .put 5 80, .put 6 81] [4, 5, 6] [q1508, q1517, q1527] w.heap.size (by kernel_rfl) (by kernel_rfl) (by kernel_rfl) ⟨p1754, b2013.lt, (nin2 n1526 n1536), ⟨p1755, b2014.lt, (nin1 n1537), ⟨p1756, b2015.lt, (by simp), trivial⟩⟩⟩ HB ?_ ?_
      · exact ⟨fun s v h => does_val rfl rfl (x_load_z ((h.same 7 rfl).trans p1757) ((h.far q1583 b2016.lt (nin3 n1590.symm n1591.symm n1592.symm)).trans b2016)) (f2027.mono ((Mono.drew _).trans h.mono)),
      fun s v h => does_val rfl rfl (x_load_z ((h.same 10 rfl).trans p1760) ((h.far q1708 b2019.lt (nin3 n1715.symm n1716.symm n1717.symm)).trans b2019)) (f2045.mono ((Mono.drew _).trans h.mono)),
      fun s v h => does_val rfl rfl (x_load_z ((h.same 11 rfl).trans p1761) ((h.far q1721 b2055.lt (nin3 n1728.symm n1729.symm n1730.symm)).trans b2055)) (f2061.mono ((Mono.drew _).trans h.mono)),
      fun s v h => does_put_z rfl rfl ((h.same 4 rfl).trans p1754) (h.dep 0 rfl).shape (((Mono.drew _).trans h.mono).ok _ _ b2013.ok2) h1514,
      fun s v h => does_put_z rfl rfl ((h.same 5 rfl).trans p1755) (h.dep 1 rfl).shape (((Mono.drew _).trans h.mono).ok _ _ b2014.ok2) h1523,
      fun s v h => does_put_z rfl rfl ((h.same 6 rfl).trans p1756) (h.dep 2 rfl).shape (((Mono.drew _).trans h.mono).ok _ _ b2015.ok2) h1533, trivial⟩
      intro g2062 ts v2062 hts E2062
      simp only [fillL, Nat.reduceAdd, List.setIfInBounds_toArray, List.set_cons_zero, List.set_cons_succ] at hts
      subst hts
      have T2063 : Below w.heap.size w v2062 := (below_toDrew T1998).trans E2062.below
      have l2064 : q1495 < v1997.heap.size := b2011.lt
      have l2065 : q1501 < v1997.heap.size := b2012.lt
      have l2066 : q1508 < v1997.heap.size := b2013.lt
      have l2067 : q1517 < v1997.heap.size := b2014.lt
      have l2068 : q1527 < v1997.heap.size := b2015.lt
      have l2069 : q1583 < v1997.heap.size := b2016.lt
      have l2070 : q1631 < v1997.heap.size := b2017.lt
      have l2071 : q1642 < v1997.heap.size := b2018.lt
      have l2072 : q1708 < v1997.heap.size := b2019.lt
      have l2073 : q1721 < v1997.heap.size := b2055.lt
      have l2074 : q1894 < v1997.heap.size := b2020.lt
      have l2075 : q1909 < v1997.heap.size := b2021.lt
      have b2076 : Bx v2062 q1495 24 #[.bool na0, .slice A0 n0 c0] := (E2062.far q1495 b2011.lt (nin3 n1515 n1524 n1534)).trans b2011
      have b2077 : Bx v2062 q1501 24 #[.bool na1, .slice A1 n1 c1] := (E2062.far q1501 b2012.lt (nin3 n1516 n1525 n1535)).trans b2012
      have b2078 : Bx v2062 q1583 t1593 #[.bool x1595, .slice A1596 m1597 c1598] := (E2062.far q1583 b2016.lt (nin3 n1590.symm n1591.symm n1592.symm)).trans b2016
      have b2079 : Bx v2062 q1631 ty8 #[.bool b8_, .slice A8_ m8_ c8_] := (E2062.far q1631 b2017.lt (nin3 n1638.symm n1639.symm n1640.symm)).trans b2017
      have b2080 : Bx v2062 q1642 ty9 #[.bool b9_, .slice A9_ m9_ c9_] := (E2062.far q1642 b2018.lt (nin3 n1649.symm n1650.symm n1651.symm)).trans b2018
      have b2081 : Bx v2062 q1708 t1989 #[.bool x1991, .slice A1992 m1993 c1994] := (E2062.far q1708 b2019.lt (nin3 n1715.symm n1716.symm n1717.symm)).trans b2019
      have b2082 : Bx v2062 q1721 t2054 #[.bool x2056, .slice A2057 m2058 c2059] := (E2062.far q1721 b2055.lt (nin3 n1728.symm n1729.symm n1730.symm)).trans b2055
      have b2083 : Bx v2062 q1894 t1925 #[.bool x1927, .slice A1928 m1929 c1930] := (E2062.far q1894 b2020.lt (nin3 n1901.symm n1902.symm n1903.symm)).trans b2020
      have b2084 : Bx v2062 q1909 t1933 #[.bool x1935, .slice A1936 m1937 c1938] := (E2062.far q1909 b2021.lt (nin3 n1916.symm n1917.symm n1918.symm)).trans b2021
      have f2085 := f2022.mono ((Mono.drew _).trans E2062.mono)
      have f2086 := f2023.mono ((Mono.drew _).trans E2062.mono)
      have f2087 := f2024.mono ((Mono.drew _).trans E2062.mono)
      have f2088 := f2025.mono ((Mono.drew _).trans E2062.mono)
      have f2089 := f2026.mono ((Mono.drew _).trans E2062.mono)
      have f2090 := f2027.mono ((Mono.drew _).trans E2062.mono)
      have f2091 := f2028.mono ((Mono.drew _).trans E2062.mono)
      have f2092 := f2029.mono ((Mono.drew _).trans E2062.mono)
      have f2093 := f2030.mono ((Mono.drew _).trans E2062.mono)
      have f2094 := f2031.mono ((Mono.drew _).trans E2062.mono)
      have f2095 := f2032.mono ((Mono.drew _).trans E2062.mono)
      have f2096 := f2033.mono ((Mono.drew _).trans E2062.mono)
      have f2097 := f2034.mono ((Mono.drew _).trans E2062.mono)
      have f2098 := f2035.mono ((Mono.drew _).trans E2062.mono)
      have f2099 := f2036.mono ((Mono.drew _).trans E2062.mono)
      have f2100 := f2037.mono ((Mono.drew _).trans E2062.mono)
      have f2101 := f2038.mono ((Mono.drew _).trans E2062.mono)
      have f2102 := f2039.mono ((Mono.drew _).trans E2062.mono)
      have f2103 := f2040.mono ((Mono.drew _).trans E2062.mono)
      have f2104 := f2041.mono ((Mono.drew _).trans E2062.mono)
      have f2105 := f2042.mono ((Mono.drew _).trans E2062.mono)
      have f2106 := f2043.mono ((Mono.drew _).trans E2062.mono)
      have f2107 := f2044.mono ((Mono.drew _).trans E2062.mono)
      have f2108 := f2045.mono ((Mono.drew _).trans E2062.mono)
      have f2109 := f2046.mono ((Mono.drew _).trans E2062.mono)
      have f2110 := f2047.mono ((Mono.drew _).trans E2062.mono)
      have f2111 := f2048.mono ((Mono.drew _).trans E2062.mono)
      have f2112 := f2049.mono ((Mono.drew _).trans E2062.mono)
      have f2113 := f2050.mono ((Mono.drew _).trans E2062.mono)
      have f2114 := f2051.mono ((Mono.drew _).trans E2062.mono)
      have f2115 := f2052.mono ((Mono.drew _).trans E2062.mono)
      have f2116 := f2053.mono ((Mono.drew _).trans E2062.mono)
      have f2117 := f2061.mono ((Mono.drew _).trans E2062.mono)
      have f2118 : Cz v2062 (g2062 0) (Int.gcd a b : Int) := E2062.facts 0 (by decide)
      have f2119 : Cz v2062 (g2062 1) (md x1 (fl (b.natAbs : Int) (Int.gcd a b : Int))) := E2062.facts 1 (by decide)
      have f2120 : Cz v2062 (g2062 2) (fl ((Int.gcd a b : Int) - ((md x1 (fl (b.natAbs : Int) (Int.gcd a b : Int))) * a)) b) := E2062.facts 2 (by decide)
      obtain ⟨t2121, x2123, A2124, m2125, c2126, e2127, b2122⟩ := put_info (E2062.facts 3 (by decide)) p1754 f2118.shape
      have f2128 : Cz v2062 (.agg #[.bool x2123, .slice A2124 m2125 c2126]) (Int.gcd a b : Int) := f2118.at e2127.symm
      obtain ⟨t2129, x2131, A2132, m2133, c2134, e2135, b2130⟩ := put_info (E2062.facts 4 (by decide)) p1755 f2119.shape
      have f2136 : Cz v2062 (.agg #[.bool x2131, .slice A2132 m2133 c2134]) (md x1 (fl (b.natAbs : Int) (Int.gcd a b : Int))) := f2119.at e2135.symm
      obtain ⟨t2137, x2139, A2140, m2141, c2142, e2143, b2138⟩ := put_info (E2062.facts 5 (by decide)) p1756 f2120.shape
      have f2144 : Cz v2062 (.agg #[.bool x2139, .slice A2140 m2141 c2142]) (fl ((Int.gcd a b : Int) - ((md x1 (fl (b.natAbs : Int) (Int.gcd a b : Int))) * a)) b) := f2120.at e2143.symm
      refine then_normal ?_
      refine wp_ret ?_
      exact bodyPost_ret (ret_ccc rfl p1754 b2122 p1755 b2130 p1756 b2138) rfl ⟨_, rfl, ⟨_, _, _, rfl, f2128, (by have := f2136; rw [E2] at this; exact this), (by have := f2144; rw [E2] at this; exact this)⟩, T2063⟩
    · skip
      have hr : 0 < -r1 := by have := Int.sign_neg_iff.1 (show r1.sign < 0 from of_decide_eq_true h1854); omega
      obtain ⟨E1, hst, E2⟩ := bez_fin hu hr (by rw [Int.natAbs_neg]; exact hrg) (dvd_other hJ.px)
      rw [E1] at hst E2
      have hg0 : (Int.gcd a b : Int) ≠ 0 := by omega
      refine wp_cond_true (e1853.trans (congrArg Value.bool h1854)) ?_
      have HB : w.heap.size ≤ v1818.heap.size := T1819.size
      refine wp_plan_seq [.val (.cz x1), .val (.cz (-x1)), .put 10 55] [10] [q1708] w.heap.size (by kernel_rfl) (by kernel_rfl) ⟨p1760, b1838.lt, (by simp), trivial⟩ HB ?_ ?_
      · exact ⟨fun s v h => does_val rfl rfl (x_load_z ((h.same 10 rfl).trans p1760) ((h.held 2 10 55 _ rfl rfl rfl p1760).trans b1838)) (f1848.mono h.mono),
      fun s v h => does_call rfl rfl (x_call1 Try.call75) (r2neg_k ((h.dep 0 rfl).az (N := N) lx) (by omega)),
      fun s v h => does_put_z rfl rfl ((h.same 10 rfl).trans p1760) (h.dep 1 rfl).shape (h.mono.ok _ _ b1838.ok2) h1712, trivial⟩
      intro g2145 ts v2145 hts E2145
      simp only [fillL, Nat.reduceAdd, List.setIfInBounds_toArray, List.set_cons_zero, List.set_cons_succ] at hts
      subst hts
      have T2146 : Below w.heap.size w v2145 := T1819.trans E2145.below
      have l2147 : q1495 < v1818.heap.size := b1830.lt
      have l2148 : q1501 < v1818.heap.size := b1831.lt
      have l2149 : q1508 < v1818.heap.size := b1832.lt
      have l2150 : q1517 < v1818.heap.size := b1833.lt
      have l2151 : q1527 < v1818.heap.size := b1834.lt
      have l2152 : q1583 < v1818.heap.size := b1835.lt
      have l2153 : q1631 < v1818.heap.size := b1836.lt
      have l2154 : q1642 < v1818.heap.size := b1837.lt
      have l2155 : q1708 < v1818.heap.size := b1838.lt
      have l2156 : q1721 < v1818.heap.size := b1839.lt
      have b2157 : Bx v2145 q1495 24 #[.bool na0, .slice A0 n0 c0] := (E2145.far q1495 b1830.lt (nin1 n1713)).trans b1830
      have b2158 : Bx v2145 q1501 24 #[.bool na1, .slice A1 n1 c1] := (E2145.far q1501 b1831.lt (nin1 n1714)).trans b1831
      have b2159 : Bx v2145 q1508 24 #[.bool false, .slice none 0 0] := (E2145.far q1508 b1832.lt (nin1 n1715)).trans b1832
      have b2160 : Bx v2145 q1517 24 #[.bool false, .slice none 0 0] := (E2145.far q1517 b1833.lt (nin1 n1716)).trans b1833
      have b2161 : Bx v2145 q1527 24 #[.bool false, .slice none 0 0] := (E2145.far q1527 b1834.lt (nin1 n1717)).trans b1834
      have b2162 : Bx v2145 q1583 t1593 #[.bool x1595, .slice A1596 m1597 c1598] := (E2145.far q1583 b1835.lt (nin1 n1718)).trans b1835
      have b2163 : Bx v2145 q1631 ty8 #[.bool b8_, .slice A8_ m8_ c8_] := (E2145.far q1631 b1836.lt (nin1 n1719)).trans b1836
      have b2164 : Bx v2145 q1642 ty9 #[.bool b9_, .slice A9_ m9_ c9_] := (E2145.far q1642 b1837.lt (nin1 n1720)).trans b1837
      have b2165 : Bx v2145 q1721 ty11 #[.bool b11_, .slice A11_ m11_ c11_] := (E2145.far q1721 b1839.lt (nin1 n1734.symm)).trans b1839
      have f2166 := f1840.mono E2145.mono
      have f2167 := f1841.mono E2145.mono
      have f2168 := f1842.mono E2145.mono
      have f2169 := f1843.mono E2145.mono
      have f2170 := f1844.mono E2145.mono
      have f2171 := f1845.mono E2145.mono
      have f2172 := f1846.mono E2145.mono
      have f2173 := f1847.mono E2145.mono
      have f2174 := f1848.mono E2145.mono
      have f2175 := f1849.mono E2145.mono
      have f2176 := f1850.mono E2145.mono
      have f2177 := f1851.mono E2145.mono
      have f2178 : Cz v2145 (g2145 0) x1 := E2145.facts 0 (by decide)
      have f2179 : Cz v2145 (g2145 1) (-x1) := E2145.facts 1 (by decide)
      obtain ⟨t2180, x2182, A2183, m2184, c2185, e2186, b2181⟩ := put_info (E2145.facts 2 (by decide)) p1760 f2179.shape
      have f2187 : Cz v2145 (.agg #[.bool x2182, .slice A2183 m2184 c2185]) (-x1) := f2179.at e2186.symm
      refine then_normal ?_
      refine wp_seq ?_
      have HB : w.heap.size ≤ v2145.heap.size := T2146.size
      refine wp_plan_any [.val (.az N b), .val (.cz (b.natAbs : Int)), .val (.cz (Int.gcd a b : Int)), .val (.tup2 (.cz (fl (b.natAbs : Int) (Int.gcd a b : Int))) (.cz (md (b.natAbs : Int) (Int.gcd a b : Int)))), .val (.tup2 (.cz (fl (b.natAbs : Int) (Int.gcd a b : Int))) (.cz (md (b.natAbs : Int) (Int.gcd a b : Int)))), .val (.cz (fl (b.natAbs : Int) (Int.gcd a b : Int))), .val (.cz (md (b.natAbs : Int) (Int.gcd a b : Int))), .new 2 none, .new 2 none, .put 14 61, .put 15 62] [] [] w.heap.size (by kernel_rfl) (by kernel_rfl) (by kernel_rfl) trivial HB ?_ ?_
      · exact ⟨fun s v h => does_val rfl rfl (x_load_z ((h.same 3 rfl).trans p1753) ((h.far q1501 b2158.lt (by simp)).trans b2158)) (f2167.mono ((Mono.drew _).trans h.mono)),
      fun s v h => does_call rfl rfl (x_call1 Try.call50) (r2abs_k (h.dep 0 rfl) (by omega)),
      fun s v h => does_val rfl rfl (x_load_z ((h.same 7 rfl).trans p1757) ((h.far q1583 b2162.lt (by simp)).trans b2162)) (f2171.mono ((Mono.drew _).trans h.mono)),
      fun s v h => does_call rfl rfl (x_call2 Try.call29) (r2floor_k ((h.dep 1 rfl).az (N := N) (len_abs la1)) ((h.dep 2 rfl).az (N := N) (gcd_len hu la1)) (by omega) (by omega) hg0),
      fun s v h => does_val rfl rfl (x_move) (h.dep 3 rfl),
      fun s v h => by obtain ⟨r0, r1, e, f0, f1⟩ := tup2_at (h.dep 4 rfl); exact does_val rfl rfl (x_ext e rfl) f0,
      fun s v h => by obtain ⟨r0, r1, e, f0, f1⟩ := tup2_at (h.dep 4 rfl); exact does_val rfl rfl (x_ext e rfl) f1,
      fun s v h => does_new rfl rfl x_alloc_z (okz _ _ _ _) rfl (.inl rfl),
      fun s v h => does_new rfl rfl x_alloc_z (okz _ _ _ _) rfl (.inl rfl),
      fun s v h => by obtain ⟨q, e1, e2, e3⟩ := new_at (h.dep 7 rfl); exact does_put_z rfl rfl e1 (h.dep 5 rfl).shape e3 (Nat.le_trans HB e2),
      fun s v h => by obtain ⟨q, e1, e2, e3⟩ := new_at (h.dep 8 rfl); exact does_put_z rfl rfl e1 (h.dep 6 rfl).shape e3 (Nat.le_trans HB e2), trivial⟩
      intro g2188 ts v2188 hts E2188
      simp only [fillL, Nat.reduceAdd, List.setIfInBounds_toArray, List.set_cons_zero, List.set_cons_succ] at hts
      subst hts
      have T2189 : Below w.heap.size w v2188 := (below_toDrew T2146).trans E2188.below
      have l2190 : q1495 < v2145.heap.size := b2157.lt
      have l2191 : q1501 < v2145.heap.size := b2158.lt
      have l2192 : q1508 < v2145.heap.size := b2159.lt
      have l2193 : q1517 < v2145.heap.size := b2160.lt
      have l2194 : q1527 < v2145.heap.size := b2161.lt
      have l2195 : q1583 < v2145.heap.size := b2162.lt
      have l2196 : q1631 < v2145.heap.size := b2163.lt
      have l2197 : q1642 < v2145.heap.size := b2164.lt
      have l2198 : q1708 < v2145.heap.size := b2181.lt
      have l2199 : q1721 < v2145.heap.size := b2165.lt
      have b2200 : Bx v2188 q1495 24 #[.bool na0, .slice A0 n0 c0] := (E2188.far q1495 b2157.lt (by simp)).trans b2157
      have b2201 : Bx v2188 q1501 24 #[.bool na1, .slice A1 n1 c1] := (E2188.far q1501 b2158.lt (by simp)).trans b2158
      have b2202 : Bx v2188 q1508 24 #[.bool false, .slice none 0 0] := (E2188.far q1508 b2159.lt (by simp)).trans b2159
      have b2203 : Bx v2188 q1517 24 #[.bool false, .slice none 0 0] := (E2188.far q1517 b2160.lt (by simp)).trans b2160
      have b2204 : Bx v2188 q1527 24 #[.bool false, .slice none 0 0] := (E2188.far q1527 b2161.lt (by simp)).trans b2161
      have b2205 : Bx v2188 q1583 t1593 #[.bool x1595, .slice A1596 m1597 c1598] := (E2188.far q1583 b2162.lt (by simp)).trans b2162
      have b2206 : Bx v2188 q1631 ty8 #[.bool b8_, .slice A8_ m8_ c8_] := (E2188.far q1631 b2163.lt (by simp)).trans b2163
      have b2207 : Bx v2188 q1642 ty9 #[.bool b9_, .slice A9_ m9_ c9_] := (E2188.far q1642 b2164.lt (by simp)).trans b2164
      have b2208 : Bx v2188 q1708 t2180 #[.bool x2182, .slice A2183 m2184 c2185] := (E2188.far q1708 b2181.lt (by simp)).trans b2181
      have b2209 : Bx v2188 q1721 ty11 #[.bool b11_, .slice A11_ m11_ c11_] := (E2188.far q1721 b2165.lt (by simp)).trans b2165
      have f2210 := f2166.mono ((Mono.drew _).trans E2188.mono)
      have f2211 := f2167.mono ((Mono.drew _).trans E2188.mono)
      have f2212 := f2168.mono ((Mono.drew _).trans E2188.mono)
      have f2213 := f2169.mono ((Mono.drew _).trans E2188.mono)
      have f2214 := f2170.mono ((Mono.drew _).trans E2188.mono)
      have f2215 := f2171.mono ((Mono.drew _).trans E2188.mono)
      have f2216 := f2172.mono ((Mono.drew _).trans E2188.mono)
      have f2217 := f2173.mono ((Mono.drew _).trans E2188.mono)
      have f2218 := f2174.mono ((Mono.drew _).trans E2188.mono)
      have f2219 := f2175.mono ((Mono.drew _).trans E2188.mono)
      have f2220 := f2176.mono ((Mono.drew _).trans E2188.mono)
      have f2221 := f2177.mono ((Mono.drew _).trans E2188.mono)
      have f2222 := f2178.mono ((Mono.drew _).trans E2188.mono)
      have f2223 := f2179.mono ((Mono.drew _).trans E2188.mono)
      have f2224 := f2187.mono ((Mono.drew _).trans E2188.mono)
      have f2225 : Az N v2188 (g2188 0) b := E2188.facts 0 (by decide)
      have f2226 : Cz v2188 (g2188 1) (b.natAbs : Int) := E2188.facts 1 (by decide)
      have f2227 : Cz v2188 (g2188 2) (Int.gcd a b : Int) := E2188.facts 2 (by decide)
      have f2228 : Cz v2188 (g2188 5) (fl (b.natAbs : Int) (Int.gcd a b : Int)) := E2188.facts 5 (by decide)
      have f2229 : Cz v2188 (g2188 6) (md (b.natAbs : Int) (Int.gcd a b : Int)) := E2188.facts 6 (by decide)
      obtain ⟨q2230, p2231, l2232, o2233⟩ : ∃ q, g2188 7 = .pointer (some ⟨q, 0, none⟩) ∧ v2145.heap.size ≤ q ∧ OkB v2188 q 2 := E2188.facts 7 (by decide)
      have h2234 : w.heap.size ≤ q2230 := Nat.le_trans HB l2232
      have n2235 : q1495 ≠ q2230 := by omega
      have n2236 : q1501 ≠ q2230 := by omega
      have n2237 : q1508 ≠ q2230 := by omega
      have n2238 : q1517 ≠ q2230 := by omega
      have n2239 : q1527 ≠ q2230 := by omega
      have n2240 : q1583 ≠ q2230 := by omega
      have n2241 : q1631 ≠ q2230 := by omega
      have n2242 : q1642 ≠ q2230 := by omega
      have n2243 : q1708 ≠ q2230 := by omega
      have n2244 : q1721 ≠ q2230 := by omega
      obtain ⟨q2245, p2246, l2247, o2248⟩ : ∃ q, g2188 8 = .pointer (some ⟨q, 0, none⟩) ∧ v2145.heap.size ≤ q ∧ OkB v2188 q 2 := E2188.facts 8 (by decide)
      have h2249 : w.heap.size ≤ q2245 := Nat.le_trans HB l2247
      have n2250 : q1495 ≠ q2245 := by omega
      have n2251 : q1501 ≠ q2245 := by omega
      have n2252 : q1508 ≠ q2245 := by omega
      have n2253 : q1517 ≠ q2245 := by omega
      have n2254 : q1527 ≠ q2245 := by omega
      have n2255 : q1583 ≠ q2245 := by omega
      have n2256 : q1631 ≠ q2245 := by omega
      have n2257 : q1642 ≠ q2245 := by omega
      have n2258 : q1708 ≠ q2245 := by omega
      have n2259 : q1721 ≠ q2245 := by omega
      have n2260 : q2230 ≠ q2245 := apart_ne (E2188.apart 7 8 (by decide) (by decide) (by decide) ⟨_, _, rfl⟩ ⟨_, _, rfl⟩) p2231 p2246
      obtain ⟨t2261, x2263, A2264, m2265, c2266, e2267, b2262⟩ := put_info (E2188.facts 9 (by decide)) p2231 f2228.shape
      have f2268 : Cz v2188 (.agg #[.bool x2263, .slice A2264 m2265 c2266]) (fl (b.natAbs : Int) (Int.gcd a b : Int)) := f2228.at e2267.symm
      obtain ⟨t2269, x2271, A2272, m2273, c2274, e2275, b2270⟩ := put_info (E2188.facts 10 (by decide)) p2246 f2229.shape
      have f2276 : Cz v2188 (.agg #[.bool x2271, .slice A2272 m2273 c2274]) (md (b.natAbs : Int) (Int.gcd a b : Int)) := f2229.at e2275.symm
      refine then_normal ?_
      refine wp_seq ?_
      have HB : w.heap.size ≤ v2188.heap.size := T2189.size
      refine wp_plan_seq [.val (.cz (-x1)), .val (.cz (fl (b.natAbs : Int) (Int.gcd a b : Int))), .val (.tup2 (.cz (fl (-x1) (fl (b.natAbs : Int) (Int.gcd a b : Int)))) (.cz (md (-x1) (fl (b.natAbs : Int) (Int.gcd a b : Int))))), .val (.tup2 (.cz (fl (-x1) (fl (b.natAbs : Int) (Int.gcd a b : Int)))) (.cz (md (-x1) (fl (b.natAbs : Int) (Int.gcd a b : Int))))), .val (.cz (fl (-x1) (fl (b.natAbs : Int) (Int.gcd a b : Int)))), .val (.cz (md (-x1) (fl (b.natAbs : Int) (Int.gcd a b : Int)))), .put 10 68] [10] [q1708] w.heap.size (by kernel_rfl) (by kernel_rfl) ⟨p1760, b2208.lt, (by simp), trivial⟩ HB ?_ ?_
      · exact ⟨fun s v h => does_val rfl rfl (x_load_z ((h.same 10 rfl).trans p1760) ((h.held 6 10 68 _ rfl rfl rfl p1760).trans b2208)) (f2224.mono h.mono),
      fun s v h => does_val rfl rfl (x_load_z ((h.same 14 rfl).trans p2231) ((h.far q2230 b2262.lt (nin1 n2243.symm)).trans b2262)) (f2268.mono h.mono),
      fun s v h => does_call rfl rfl (x_call2 Try.call29) (r2floor_k ((h.dep 0 rfl).az (N := N) (len_neg lx)) ((h.dep 1 rfl).az (N := (N + 1)) (fl_len (len_abs la1))) (by omega) (by omega) hst),
      fun s v h => does_val rfl rfl (x_move) (h.dep 2 rfl),
      fun s v h => by obtain ⟨r0, r1, e, f0, f1⟩ := tup2_at (h.dep 3 rfl); exact does_val rfl rfl (x_ext e rfl) f0,
      fun s v h => by obtain ⟨r0, r1, e, f0, f1⟩ := tup2_at (h.dep 3 rfl); exact does_val rfl rfl (x_ext e rfl) f1,
      fun s v h => does_put_z rfl rfl ((h.same 10 rfl).trans p1760) (h.dep 5 rfl).shape (h.mono.ok _ _ b2208.ok2) h1712, trivial⟩
      intro g2277 ts v2277 hts E2277
      simp only [fillL, Nat.reduceAdd, List.setIfInBounds_toArray, List.set_cons_zero, List.set_cons_succ] at hts
      subst hts
      have T2278 : Below w.heap.size w v2277 := T2189.trans E2277.below
      have l2279 : q1495 < v2188.heap.size := b2200.lt
      have l2280 : q1501 < v2188.heap.size := b2201.lt
      have l2281 : q1508 < v2188.heap.size := b2202.lt
      have l2282 : q1517 < v2188.heap.size := b2203.lt
      have l2283 : q1527 < v2188.heap.size := b2204.lt
      have l2284 : q1583 < v2188.heap.size := b2205.lt
      have l2285 : q1631 < v2188.heap.size := b2206.lt
      have l2286 : q1642 < v2188.heap.size := b2207.lt
      have l2287 : q1708 < v2188.heap.size := b2208.lt
      have l2288 : q1721 < v2188.heap.size := b2209.lt
      have l2289 : q2230 < v2188.heap.size := b2262.lt
      have l2290 : q2245 < v2188.heap.size := b2270.lt
      have b2291 : Bx v2277 q1495 24 #[.bool na0, .slice A0 n0 c0] := (E2277.far q1495 b2200.lt (nin1 n1713)).trans b2200
      have b2292 : Bx v2277 q1501 24 #[.bool na1, .slice A1 n1 c1] := (E2277.far q1501 b2201.lt (nin1 n1714)).trans b2201
      have b2293 : Bx v2277 q1508 24 #[.bool false, .slice none 0 0] := (E2277.far q1508 b2202.lt (nin1 n1715)).trans b2202
      have b2294 : Bx v2277 q1517 24 #[.bool false, .slice none 0 0] := (E2277.far q1517 b2203.lt (nin1 n1716)).trans b2203
      have b2295 : Bx v2277 q1527 24 #[.bool false, .slice none 0 0] := (E2277.far q1527 b2204.lt (nin1 n1717)).trans b2204
      have b2296 : Bx v2277 q1583 t1593 #[.bool x1595, .slice A1596 m1597 c1598] := (E2277.far q1583 b2205.lt (nin1 n1718)).trans b2205
      have b2297 : Bx v2277 q1631 ty8 #[.bool b8_, .slice A8_ m8_ c8_] := (E2277.far q1631 b2206.lt (nin1 n1719)).trans b2206
      have b2298 : Bx v2277 q1642 ty9 #[.bool b9_, .slice A9_ m9_ c9_] := (E2277.far q1642 b2207.lt (nin1 n1720)).trans b2207
      have b2299 : Bx v2277 q1721 ty11 #[.bool b11_, .slice A11_ m11_ c11_] := (E2277.far q1721 b2209.lt (nin1 n1734.symm)).trans b2209
      have b2300 : Bx v2277 q2230 t2261 #[.bool x2263, .slice A2264 m2265 c2266] := (E2277.far q2230 b2262.lt (nin1 n2243.symm)).trans b2262
      have b2301 : Bx v2277 q2245 t2269 #[.bool x2271, .slice A2272 m2273 c2274] := (E2277.far q2245 b2270.lt (nin1 n2258.symm)).trans b2270
      have f2302 := f2210.mono E2277.mono
      have f2303 := f2211.mono E2277.mono
      have f2304 := f2212.mono E2277.mono
      have f2305 := f2213.mono E2277.mono
      have f2306 := f2214.mono E2277.mono
      have f2307 := f2215.mono E2277.mono
      have f2308 := f2216.mono E2277.mono
      have f2309 := f2217.mono E2277.mono
      have f2310 := f2218.mono E2277.mono
      have f2311 := f2219.mono E2277.mono
      have f2312 := f2220.mono E2277.mono
      have f2313 := f2221.mono E2277.mono
      have f2314 := f2222.mono E2277.mono
      have f2315 := f2223.mono E2277.mono
      have f2316 := f2224.mono E2277.mono
      have f2317 := f2225.mono E2277.mono
      have f2318 := f2226.mono E2277.mono
      have f2319 := f2227.mono E2277.mono
      have f2320 := f2228.mono E2277.mono
      have f2321 := f2229.mono E2277.mono
      have f2322 := f2268.mono E2277.mono
      have f2323 := f2276.mono E2277.mono
      have f2324 : Cz v2277 (g2277 0) (-x1) := E2277.facts 0 (by decide)
      have f2325 : Cz v2277 (g2277 1) (fl (b.natAbs : Int) (Int.gcd a b : Int)) := E2277.facts 1 (by decide)
      have f2326 : Cz v2277 (g2277 4) (fl (-x1) (fl (b.natAbs : Int) (Int.gcd a b : Int))) := E2277.facts 4 (by decide)
      have f2327 : Cz v2277 (g2277 5) (md (-x1) (fl (b.natAbs : Int) (Int.gcd a b : Int))) := E2277.facts 5 (by decide)
      obtain ⟨t2328, x2330, A2331, m2332, c2333, e2334, b2329⟩ := put_info (E2277.facts 6 (by decide)) p1760 f2327.shape
      have f2335 : Cz v2277 (.agg #[.bool x2330, .slice A2331 m2332 c2333]) (md (-x1) (fl (b.natAbs : Int) (Int.gcd a b : Int))) := f2327.at e2334.symm
      refine then_normal ?_
      refine wp_seq ?_
      have HB : w.heap.size ≤ v2277.heap.size := T2278.size
      refine wp_plan_any [.val (.cz (Int.gcd a b : Int)), .val (.cz (md (-x1) (fl (b.natAbs : Int) (Int.gcd a b : Int)))), .val (.az N a), .val (.cz ((md (-x1) (fl (b.natAbs : Int) (Int.gcd a b : Int))) * a)), .val (.cz ((Int.gcd a b : Int) - ((md (-x1) (fl (b.natAbs : Int) (Int.gcd a b : Int))) * a))), .val (.az N b), .val (.tup2 (.cz (fl ((Int.gcd a b : Int) - ((md (-x1) (fl (b.natAbs : Int) (Int.gcd a b : Int))) * a)) b)) (.cz (md ((Int.gcd a b : Int) - ((md (-x1) (fl (b.natAbs : Int) (Int.gcd a b : Int))) * a)) b))), .val (.tup2 (.cz (fl ((Int.gcd a b : Int) - ((md (-x1) (fl (b.natAbs : Int) (Int.gcd a b : Int))) * a)) b)) (.cz (md ((Int.gcd a b : Int) - ((md (-x1) (fl (b.natAbs : Int) (Int.gcd a b : Int))) * a)) b))), .val (.cz (fl ((Int.gcd a b : Int) - ((md (-x1) (fl (b.natAbs : Int) (Int.gcd a b : Int))) * a)) b)), .val (.cz (md ((Int.gcd a b : Int) - ((md (-x1) (fl (b.natAbs : Int) (Int.gcd a b : Int))) * a)) b)), .put 11 77] [11] [q1721] w.heap.size (by kernel_rfl) (by kernel_rfl) (by kernel_rfl) ⟨p1761, b2299.lt, (by simp), trivial⟩ HB ?_ ?_
      · exact ⟨fun s v h => does_val rfl rfl (x_load_z ((h.same 7 rfl).trans p1757) ((h.far q1583 b2296.lt (nin1 n1731)).trans b2296)) (f2307.mono ((Mono.drew _).trans h.mono)),
      fun s v h => does_val rfl rfl (x_load_z ((h.same 10 rfl).trans p1760) ((h.far q1708 b2329.lt (nin1 n1734)).trans b2329)) (f2335.mono ((Mono.drew _).trans h.mono)),
      fun s v h => does_val rfl rfl (x_load_z ((h.same 2 rfl).trans p1752) ((h.far q1495 b2291.lt (nin1 n1726)).trans b2291)) (f2302.mono ((Mono.drew _).trans h.mono)),
      fun s v h => does_call rfl rfl (x_call2 Try.call71) (r2mul_k ((h.dep 1 rfl).az (N := (N + 1)) (md_len hst (fl_len (len_abs la1)))) (h.dep 2 rfl) (by omega)),
      fun s v h => does_call rfl rfl (x_call2 Try.call70) (r2sub_k ((h.dep 0 rfl).az (N := N) (gcd_len hu la1)) ((h.dep 3 rfl).az (N := ((N + 1) + N)) (len_mul (md_len hst (fl_len (len_abs la1))) la0)) (by omega) (by omega)),
      fun s v h => does_val rfl rfl (x_load_z ((h.same 3 rfl).trans p1753) ((h.far q1501 b2292.lt (nin1 n1727)).trans b2292)) (f2303.mono ((Mono.drew _).trans h.mono)),
      fun s v h => does_call rfl rfl (x_call2 Try.call29) (r2floor_k ((h.dep 4 rfl).az (N := (max N ((N + 1) + N) + 1)) (len_sub' (n := (max N ((N + 1) + N) + 1)) (gcd_len hu la1) (len_mul (md_len hst (fl_len (len_abs la1))) la0) (by omega) (by omega))) (h.dep 5 rfl) (by omega) (by omega) hu),
      fun s v h => does_val rfl rfl (x_move) (h.dep 6 rfl),
      fun s v h => by obtain ⟨r0, r1, e, f0, f1⟩ := tup2_at (h.dep 7 rfl); exact does_val rfl rfl (x_ext e rfl) f0,
      fun s v h => by obtain ⟨r0, r1, e, f0, f1⟩ := tup2_at (h.dep 7 rfl); exact does_val rfl rfl (x_ext e rfl) f1,
      fun s v h => does_put_z rfl rfl ((h.same 11 rfl).trans p1761) (h.dep 8 rfl).shape (((Mono.drew _).trans h.mono).ok _ _ b2299.ok2) h1725, trivial⟩
      intro g2336 ts v2336 hts E2336
      simp only [fillL, Nat.reduceAdd, List.setIfInBounds_toArray, List.set_cons_zero, List.set_cons_succ] at hts
      subst hts
      have T2337 : Below w.heap.size w v2336 := (below_toDrew T2278).trans E2336.below
      have l2338 : q1495 < v2277.heap.size := b2291.lt
      have l2339 : q1501 < v2277.heap.size := b2292.lt
      have l2340 : q1508 < v2277.heap.size := b2293.lt
      have l2341 : q1517 < v2277.heap.size := b2294.lt
      have l2342 : q1527 < v2277.heap.size := b2295.lt
      have l2343 : q1583 < v2277.heap.size := b2296.lt
      have l2344 : q1631 < v2277.heap.size := b2297.lt
      have l2345 : q1642 < v2277.heap.size := b2298.lt
      have l2346 : q1708 < v2277.heap.size := b2329.lt
      have l2347 : q1721 < v2277.heap.size := b2299.lt
      have l2348 : q2230 < v2277.heap.size := b2300.lt
      have l2349 : q2245 < v2277.heap.size := b2301.lt
      have b2350 : Bx v2336 q1495 24 #[.bool na0, .slice A0 n0 c0] := (E2336.far q1495 b2291.lt (nin1 n1726)).trans b2291
      have b2351 : Bx v2336 q1501 24 #[.bool na1, .slice A1 n1 c1] := (E2336.far q1501 b2292.lt (nin1 n1727)).trans b2292
      have b2352 : Bx v2336 q1508 24 #[.bool false, .slice none 0 0] := (E2336.far q1508 b2293.lt (nin1 n1728)).trans b2293
      have b2353 : Bx v2336 q1517 24 #[.bool false, .slice none 0 0] := (E2336.far q1517 b2294.lt (nin1 n1729)).trans b2294
      have b2354 : Bx v2336 q1527 24 #[.bool false, .slice none 0 0] := (E2336.far q1527 b2295.lt (nin1 n1730)).trans b2295
      have b2355 : Bx v2336 q1583 t1593 #[.bool x1595, .slice A1596 m1597 c1598] := (E2336.far q1583 b2296.lt (nin1 n1731)).trans b2296
      have b2356 : Bx v2336 q1631 ty8 #[.bool b8_, .slice A8_ m8_ c8_] := (E2336.far q1631 b2297.lt (nin1 n1732)).trans b2297
      have b2357 : Bx v2336 q1642 ty9 #[.bool b9_, .slice A9_ m9_ c9_] := (E2336.far q1642 b2298.lt (nin1 n1733)).trans b2298
      have b2358 : Bx v2336 q1708 t2328 #[.bool x2330, .slice A2331 m2332 c2333] := (E2336.far q1708 b2329.lt (nin1 n1734)).trans b2329
      have b2359 : Bx v2336 q2230 t2261 #[.bool x2263, .slice A2264 m2265 c2266] := (E2336.far q2230 b2300.lt (nin1 n2244.symm)).trans b2300
      have b2360 : Bx v2336 q2245 t2269 #[.bool x2271, .slice A2272 m2273 c2274] := (E2336.far q2245 b2301.lt (nin1 n2259.symm)).trans b2301
      have f2361 := f2302.mono ((Mono.drew _).trans E2336.mono)
      have f2362 := f2303.mono ((Mono.drew _).trans E2336.mono)
      have f2363 := f2304.mono ((Mono.drew _).trans E2336.mono)
      have f2364 := f2305.mono ((Mono.drew _).trans E2336.mono)
      have f2365 := f2306.mono ((Mono.drew _).trans E2336.mono)
      have f2366 := f2307.mono ((Mono.drew _).trans E2336.mono)
      have f2367 := f2308.mono ((Mono.drew _).trans E2336.mono)
      have f2368 := f2309.mono ((Mono.drew _).trans E2336.mono)
      have f2369 := f2310.mono ((Mono.drew _).trans E2336.mono)
      have f2370 := f2311.mono ((Mono.drew _).trans E2336.mono)
      have f2371 := f2312.mono ((Mono.drew _).trans E2336.mono)
      have f2372 := f2313.mono ((Mono.drew _).trans E2336.mono)
      have f2373 := f2314.mono ((Mono.drew _).trans E2336.mono)
      have f2374 := f2315.mono ((Mono.drew _).trans E2336.mono)
      have f2375 := f2316.mono ((Mono.drew _).trans E2336.mono)
      have f2376 := f2317.mono ((Mono.drew _).trans E2336.mono)
      have f2377 := f2318.mono ((Mono.drew _).trans E2336.mono)
      have f2378 := f2319.mono ((Mono.drew _).trans E2336.mono)
      have f2379 := f2320.mono ((Mono.drew _).trans E2336.mono)
      have f2380 := f2321.mono ((Mono.drew _).trans E2336.mono)
      have f2381 := f2322.mono ((Mono.drew _).trans E2336.mono)
      have f2382 := f2323.mono ((Mono.drew _).trans E2336.mono)
      have f2383 := f2324.mono ((Mono.drew _).trans E2336.mono)
      have f2384 := f2325.mono ((Mono.drew _).trans E2336.mono)
      have f2385 := f2326.mono ((Mono.drew _).trans E2336.mono)
      have f2386 := f2327.mono ((Mono.drew _).trans E2336.mono)
      have f2387 := f2335.mono ((Mono.drew _).trans E2336.mono)
      have f2388 : Cz v2336 (g2336 0) (Int.gcd a b : Int) := E2336.facts 0 (by decide)
      have f2389 : Cz v2336 (g2336 1) (md (-x1) (fl (b.natAbs : Int) (Int.gcd a b : Int))) := E2336.facts 1 (by decide)
      have f2390 : Az N v2336 (g2336 2) a := E2336.facts 2 (by decide)
      have f2391 : Cz v2336 (g2336 3) ((md (-x1) (fl (b.natAbs : Int) (Int.gcd a b : Int))) * a) := E2336.facts 3 (by decide)
      have f2392 : Cz v2336 (g2336 4) ((Int.gcd a b : Int) - ((md (-x1) (fl (b.natAbs : Int) (Int.gcd a b : Int))) * a)) := E2336.facts 4 (by decide)
      have f2393 : Az N v2336 (g2336 5) b := E2336.facts 5 (by decide)
      have f2394 : Cz v2336 (g2336 8) (fl ((Int.gcd a b : Int) - ((md (-x1) (fl (b.natAbs : Int) (Int.gcd a b : Int))) * a)) b) := E2336.facts 8 (by decide)
      have f2395 : Cz v2336 (g2336 9) (md ((Int.gcd a b : Int) - ((md (-x1) (fl (b.natAbs : Int) (Int.gcd a b : Int))) * a)) b) := E2336.facts 9 (by decide)
      obtain ⟨t2396, x2398, A2399, m2400, c2401, e2402, b2397⟩ := put_info (E2336.facts 10 (by decide)) p1761 f2394.shape
      have f2403 : Cz v2336 (.agg #[.bool x2398, .slice A2399 m2400 c2401]) (fl ((Int.gcd a b : Int) - ((md (-x1) (fl (b.natAbs : Int) (Int.gcd a b : Int))) * a)) b) := f2394.at e2402.symm
      refine then_normal ?_
      refine wp_seq ?_
      have HB : w.heap.size ≤ v2336.heap.size := T2337.size
      refine wp_plan_any [.val (.cz (Int.gcd a b : Int)), .val (.cz (md (-x1) (fl (b.natAbs : Int) (Int.gcd a b : Int)))), .val (.cz (fl ((Int.gcd a b : Int) - ((md (-x1) (fl (b.natAbs : Int) (Int.gcd a b : Int))) * a)) b)), .put 4 79, .put 5 80, .put 6 81] [4, 5, 6] [q1508, q1517, q1527] w.heap.size (by kernel_rfl) (by kernel_rfl) (by kernel_rfl) ⟨p1754, b2352.lt, (nin2 n1526 n1536), ⟨p1755, b2353.lt, (nin1 n1537), ⟨p1756, b2354.lt, (by simp), trivial⟩⟩⟩ HB ?_ ?_
      · exact ⟨fun s v h => does_val rfl rfl (x_load_z ((h.same 7 rfl).trans p1757) ((h.far q1583 b2355.lt (nin3 n1590.symm n1591.symm n1592.symm)).trans b2355)) (f2366.mono ((Mono.drew _).trans h.mono)),
      fun s v h => does_val rfl rfl (x_load_z ((h.same 10 rfl).trans p1760) ((h.far q1708 b2358.lt (nin3 n1715.symm n1716.symm n1717.symm)).trans b2358)) (f2387.mono ((Mono.drew _).trans h.mono)),
      fun s v h => does_val rfl rfl (x_load_z ((h.same 11 rfl).trans p1761) ((h.far q1721 b2397.lt (nin3 n1728.symm n1729.symm n1730.symm)).trans b2397)) (f2403.mono ((Mono.drew _).trans h.mono)),
      fun s v h => does_put_z rfl rfl ((h.same 4 rfl).trans p1754) (h.dep 0 rfl).shape (((Mono.drew _).trans h.mono).ok _ _ b2352.ok2) h1514,
      fun s v h => does_put_z rfl rfl ((h.same 5 rfl).trans p1755) (h.dep 1 rfl).shape (((Mono.drew _).trans h.mono).ok _ _ b2353.ok2) h1523,
      fun s v h => does_put_z rfl rfl ((h.same 6 rfl).trans p1756) (h.dep 2 rfl).shape (((Mono.drew _).trans h.mono).ok _ _ b2354.ok2) h1533, trivial⟩
      intro g2404 ts v2404 hts E2404
      simp only [fillL, Nat.reduceAdd, List.setIfInBounds_toArray, List.set_cons_zero, List.set_cons_succ] at hts
      subst hts
      have T2405 : Below w.heap.size w v2404 := (below_toDrew T2337).trans E2404.below
      have l2406 : q1495 < v2336.heap.size := b2350.lt
      have l2407 : q1501 < v2336.heap.size := b2351.lt
      have l2408 : q1508 < v2336.heap.size := b2352.lt
      have l2409 : q1517 < v2336.heap.size := b2353.lt
      have l2410 : q1527 < v2336.heap.size := b2354.lt
      have l2411 : q1583 < v2336.heap.size := b2355.lt
      have l2412 : q1631 < v2336.heap.size := b2356.lt
      have l2413 : q1642 < v2336.heap.size := b2357.lt
      have l2414 : q1708 < v2336.heap.size := b2358.lt
      have l2415 : q1721 < v2336.heap.size := b2397.lt
      have l2416 : q2230 < v2336.heap.size := b2359.lt
      have l2417 : q2245 < v2336.heap.size := b2360.lt
      have b2418 : Bx v2404 q1495 24 #[.bool na0, .slice A0 n0 c0] := (E2404.far q1495 b2350.lt (nin3 n1515 n1524 n1534)).trans b2350
      have b2419 : Bx v2404 q1501 24 #[.bool na1, .slice A1 n1 c1] := (E2404.far q1501 b2351.lt (nin3 n1516 n1525 n1535)).trans b2351
      have b2420 : Bx v2404 q1583 t1593 #[.bool x1595, .slice A1596 m1597 c1598] := (E2404.far q1583 b2355.lt (nin3 n1590.symm n1591.symm n1592.symm)).trans b2355
      have b2421 : Bx v2404 q1631 ty8 #[.bool b8_, .slice A8_ m8_ c8_] := (E2404.far q1631 b2356.lt (nin3 n1638.symm n1639.symm n1640.symm)).trans b2356
      have b2422 : Bx v2404 q1642 ty9 #[.bool b9_, .slice A9_ m9_ c9_] := (E2404.far q1642 b2357.lt (nin3 n1649.symm n1650.symm n1651.symm)).trans b2357
      have b2423 : Bx v2404 q1708 t2328 #[.bool x2330, .slice A2331 m2332 c2333] := (E2404.far q1708 b2358.lt (nin3 n1715.symm n1716.symm n1717.symm)).trans b2358
      have b2424 : Bx v2404 q1721 t2396 #[.bool x2398, .slice A2399 m2400 c2401] := (E2404.far q1721 b2397.lt (nin3 n1728.symm n1729.symm n1730.symm)).trans b2397
      have b2425 : Bx v2404 q2230 t2261 #[.bool x2263, .slice A2264 m2265 c2266] := (E2404.far q2230 b2359.lt (nin3 n2237.symm n2238.symm n2239.symm)).trans b2359
      have b2426 : Bx v2404 q2245 t2269 #[.bool x2271, .slice A2272 m2273 c2274] := (E2404.far q2245 b2360.lt (nin3 n2252.symm n2253.symm n2254.symm)).trans b2360
      have f2427 := f2361.mono ((Mono.drew _).trans E2404.mono)
      have f2428 := f2362.mono ((Mono.drew _).trans E2404.mono)
      have f2429 := f2363.mono ((Mono.drew _).trans E2404.mono)
      have f2430 := f2364.mono ((Mono.drew _).trans E2404.mono)
      have f2431 := f2365.mono ((Mono.drew _).trans E2404.mono)
      have f2432 := f2366.mono ((Mono.drew _).trans E2404.mono)
      have f2433 := f2367.mono ((Mono.drew _).trans E2404.mono)
      have f2434 := f2368.mono ((Mono.drew _).trans E2404.mono)
      have f2435 := f2369.mono ((Mono.drew _).trans E2404.mono)
      have f2436 := f2370.mono ((Mono.drew _).trans E2404.mono)
      have f2437 := f2371.mono ((Mono.drew _).trans E2404.mono)
      have f2438 := f2372.mono ((Mono.drew _).trans E2404.mono)
      have f2439 := f2373.mono ((Mono.drew _).trans E2404.mono)
      have f2440 := f2374.mono ((Mono.drew _).trans E2404.mono)
      have f2441 := f2375.mono ((Mono.drew _).trans E2404.mono)
      have f2442 := f2376.mono ((Mono.drew _).trans E2404.mono)
      have f2443 := f2377.mono ((Mono.drew _).trans E2404.mono)
      have f2444 := f2378.mono ((Mono.drew _).trans E2404.mono)
      have f2445 := f2379.mono ((Mono.drew _).trans E2404.mono)
      have f2446 := f2380.mono ((Mono.drew _).trans E2404.mono)
      have f2447 := f2381.mono ((Mono.drew _).trans E2404.mono)
      have f2448 := f2382.mono ((Mono.drew _).trans E2404.mono)
      have f2449 := f2383.mono ((Mono.drew _).trans E2404.mono)
      have f2450 := f2384.mono ((Mono.drew _).trans E2404.mono)
      have f2451 := f2385.mono ((Mono.drew _).trans E2404.mono)
      have f2452 := f2386.mono ((Mono.drew _).trans E2404.mono)
      have f2453 := f2387.mono ((Mono.drew _).trans E2404.mono)
      have f2454 := f2388.mono ((Mono.drew _).trans E2404.mono)
      have f2455 := f2389.mono ((Mono.drew _).trans E2404.mono)
      have f2456 := f2390.mono ((Mono.drew _).trans E2404.mono)
      have f2457 := f2391.mono ((Mono.drew _).trans E2404.mono)
      have f2458 := f2392.mono ((Mono.drew _).trans E2404.mono)
      have f2459 := f2393.mono ((Mono.drew _).trans E2404.mono)
      have f2460 := f2394.mono ((Mono.drew _).trans E2404.mono)
      have f2461 := f2395.mono ((Mono.drew _).trans E2404.mono)
      have f2462 := f2403.mono ((Mono.drew _).trans E2404.mono)
      have f2463 : Cz v2404 (g2404 0) (Int.gcd a b : Int) := E2404.facts 0 (by decide)
      have f2464 : Cz v2404 (g2404 1) (md (-x1) (fl (b.natAbs : Int) (Int.gcd a b : Int))) := E2404.facts 1 (by decide)
      have f2465 : Cz v2404 (g2404 2) (fl ((Int.gcd a b : Int) - ((md (-x1) (fl (b.natAbs : Int) (Int.gcd a b : Int))) * a)) b) := E2404.facts 2 (by decide)
      obtain ⟨t2466, x2468, A2469, m2470, c2471, e2472, b2467⟩ := put_info (E2404.facts 3 (by decide)) p1754 f2463.shape
      have f2473 : Cz v2404 (.agg #[.bool x2468, .slice A2469 m2470 c2471]) (Int.gcd a b : Int) := f2463.at e2472.symm
      obtain ⟨t2474, x2476, A2477, m2478, c2479, e2480, b2475⟩ := put_info (E2404.facts 4 (by decide)) p1755 f2464.shape
      have f2481 : Cz v2404 (.agg #[.bool x2476, .slice A2477 m2478 c2479]) (md (-x1) (fl (b.natAbs : Int) (Int.gcd a b : Int))) := f2464.at e2480.symm
      obtain ⟨t2482, x2484, A2485, m2486, c2487, e2488, b2483⟩ := put_info (E2404.facts 5 (by decide)) p1756 f2465.shape
      have f2489 : Cz v2404 (.agg #[.bool x2484, .slice A2485 m2486 c2487]) (fl ((Int.gcd a b : Int) - ((md (-x1) (fl (b.natAbs : Int) (Int.gcd a b : Int))) * a)) b) := f2465.at e2488.symm
      refine then_normal ?_
      refine wp_ret ?_
      exact bodyPost_ret (ret_ccc rfl p1754 b2467 p1755 b2475 p1756 b2483) rfl ⟨_, rfl, ⟨_, _, _, rfl, f2473, (by have := f2481; rw [E2] at this; exact this), (by have := f2489; rw [E2] at this; exact this)⟩, T2405⟩
  · skip
    have d0 : (s1.sign == 0) = false := by
      cases h : (s1.sign == 0) with
      | false => rfl
      | true => exact absurd (sign_eq_zero.1 h) hs
    refine wp_seq ?_
    refine wp_seq ?_
    have HB : w.heap.size ≤ v1751.heap.size := T1762.size
    refine wp_plan_seq [.val (.cz s1), .val (.is (.int .i64 s1.sign)), .val (.is (.bool true))] [] [] w.heap.size (by kernel_rfl) (by kernel_rfl) trivial HB ?_ ?_
    · exact ⟨fun s v h => does_val rfl rfl (x_load_z ((h.same 9 rfl).trans p1759) ((h.far q1642 b1777.lt (by simp)).trans b1777)) (f1778.mono h.mono),
      fun s v h => does_call rfl rfl (x_call1 Try.call28) (r2sign_k ((h.dep 0 rfl).az (N := N) ls) (by omega)),
      fun s v h => does_val rfl rfl (x_neq_int (h.dep 1 rfl) rfl) (congrArg (fun x => Value.bool (!x)) d0), trivial⟩
    intro g2490 ts v2490 hts E2490
    simp only [fillL, Nat.reduceAdd, List.setIfInBounds_toArray, List.set_cons_zero, List.set_cons_succ] at hts
    subst hts
    have T2491 : Below w.heap.size w v2490 := T1762.trans E2490.below
    have l2492 : q1495 < v1751.heap.size := b1763.lt
    have l2493 : q1501 < v1751.heap.size := b1765.lt
    have l2494 : q1508 < v1751.heap.size := b1767.lt
    have l2495 : q1517 < v1751.heap.size := b1769.lt
    have l2496 : q1527 < v1751.heap.size := b1771.lt
    have l2497 : q1583 < v1751.heap.size := b1773.lt
    have l2498 : q1631 < v1751.heap.size := b1775.lt
    have l2499 : q1642 < v1751.heap.size := b1777.lt
    have l2500 : q1708 < v1751.heap.size := b1779.lt
    have l2501 : q1721 < v1751.heap.size := b1781.lt
    have b2502 : Bx v2490 q1495 24 #[.bool na0, .slice A0 n0 c0] := (E2490.far q1495 b1763.lt (by simp)).trans b1763
    have b2503 : Bx v2490 q1501 24 #[.bool na1, .slice A1 n1 c1] := (E2490.far q1501 b1765.lt (by simp)).trans b1765
    have b2504 : Bx v2490 q1508 24 #[.bool false, .slice none 0 0] := (E2490.far q1508 b1767.lt (by simp)).trans b1767
    have b2505 : Bx v2490 q1517 24 #[.bool false, .slice none 0 0] := (E2490.far q1517 b1769.lt (by simp)).trans b1769
    have b2506 : Bx v2490 q1527 24 #[.bool false, .slice none 0 0] := (E2490.far q1527 b1771.lt (by simp)).trans b1771
    have b2507 : Bx v2490 q1583 t1593 #[.bool x1595, .slice A1596 m1597 c1598] := (E2490.far q1583 b1773.lt (by simp)).trans b1773
    have b2508 : Bx v2490 q1631 ty8 #[.bool b8_, .slice A8_ m8_ c8_] := (E2490.far q1631 b1775.lt (by simp)).trans b1775
    have b2509 : Bx v2490 q1642 ty9 #[.bool b9_, .slice A9_ m9_ c9_] := (E2490.far q1642 b1777.lt (by simp)).trans b1777
    have b2510 : Bx v2490 q1708 ty10 #[.bool b10_, .slice A10_ m10_ c10_] := (E2490.far q1708 b1779.lt (by simp)).trans b1779
    have b2511 : Bx v2490 q1721 ty11 #[.bool b11_, .slice A11_ m11_ c11_] := (E2490.far q1721 b1781.lt (by simp)).trans b1781
    have f2512 := f1764.mono E2490.mono
    have f2513 := f1766.mono E2490.mono
    have f2514 := f1768.mono E2490.mono
    have f2515 := f1770.mono E2490.mono
    have f2516 := f1772.mono E2490.mono
    have f2517 := f1774.mono E2490.mono
    have f2518 := f1776.mono E2490.mono
    have f2519 := f1778.mono E2490.mono
    have f2520 := f1780.mono E2490.mono
    have f2521 := f1782.mono E2490.mono
    have f2522 : Cz v2490 (g2490 0) s1 := E2490.facts 0 (by decide)
    have e2523 : g2490 1 = (.int .i64 s1.sign) := E2490.facts 1 (by decide)
    have e2524 : g2490 2 = (.bool true) := E2490.facts 2 (by decide)
    refine then_normal ?_
    refine wp_cond_true e2524 ?_
    refine wp_skip ?_
    refine then_normal ?_
    refine wp_block ?_
    refine wp_seq ?_
    have HB : w.heap.size ≤ v2490.heap.size := T2491.size
    refine wp_plan_seq [.val (.cz r1), .val (.cz s1), .val (.tup2 (.cz (fl r1 s1)) (.cz (md r1 s1))), .val (.tup2 (.cz (fl r1 s1)) (.cz (md r1 s1))), .val (.cz (fl r1 s1)), .val (.cz (md r1 s1)), .new 2 none, .new 2 none, .put 12 41, .put 13 42] [] [] w.heap.size (by kernel_rfl) (by kernel_rfl) trivial HB ?_ ?_
    · exact ⟨fun s v h => does_val rfl rfl (x_load_z ((h.same 8 rfl).trans p1758) ((h.far q1631 b2508.lt (by simp)).trans b2508)) (f2518.mono h.mono),
      fun s v h => does_val rfl rfl (x_load_z ((h.same 9 rfl).trans p1759) ((h.far q1642 b2509.lt (by simp)).trans b2509)) (f2519.mono h.mono),
      fun s v h => does_call rfl rfl (x_call2 Try.call29) (r2floor_k ((h.dep 0 rfl).az (N := N) lr) ((h.dep 1 rfl).az (N := N) ls) (by omega) (by omega) hs),
      fun s v h => does_val rfl rfl (x_move) (h.dep 2 rfl),
      fun s v h => by obtain ⟨r0, r1, e, f0, f1⟩ := tup2_at (h.dep 3 rfl); exact does_val rfl rfl (x_ext e rfl) f0,
      fun s v h => by obtain ⟨r0, r1, e, f0, f1⟩ := tup2_at (h.dep 3 rfl); exact does_val rfl rfl (x_ext e rfl) f1,
      fun s v h => does_new rfl rfl x_alloc_z (okz _ _ _ _) rfl (.inl rfl),
      fun s v h => does_new rfl rfl x_alloc_z (okz _ _ _ _) rfl (.inl rfl),
      fun s v h => by obtain ⟨q, e1, e2, e3⟩ := new_at (h.dep 6 rfl); exact does_put_z rfl rfl e1 (h.dep 4 rfl).shape e3 (Nat.le_trans HB e2),
      fun s v h => by obtain ⟨q, e1, e2, e3⟩ := new_at (h.dep 7 rfl); exact does_put_z rfl rfl e1 (h.dep 5 rfl).shape e3 (Nat.le_trans HB e2), trivial⟩
    intro g2525 ts v2525 hts E2525
    simp only [fillL, Nat.reduceAdd, List.setIfInBounds_toArray, List.set_cons_zero, List.set_cons_succ] at hts
    subst hts
    have T2526 : Below w.heap.size w v2525 := T2491.trans E2525.below
    have l2527 : q1495 < v2490.heap.size := b2502.lt
    have l2528 : q1501 < v2490.heap.size := b2503.lt
    have l2529 : q1508 < v2490.heap.size := b2504.lt
    have l2530 : q1517 < v2490.heap.size := b2505.lt
    have l2531 : q1527 < v2490.heap.size := b2506.lt
    have l2532 : q1583 < v2490.heap.size := b2507.lt
    have l2533 : q1631 < v2490.heap.size := b2508.lt
    have l2534 : q1642 < v2490.heap.size := b2509.lt
    have l2535 : q1708 < v2490.heap.size := b2510.lt
    have l2536 : q1721 < v2490.heap.size := b2511.lt
    have b2537 : Bx v2525 q1495 24 #[.bool na0, .slice A0 n0 c0] := (E2525.far q1495 b2502.lt (by simp)).trans b2502
    have b2538 : Bx v2525 q1501 24 #[.bool na1, .slice A1 n1 c1] := (E2525.far q1501 b2503.lt (by simp)).trans b2503
    have b2539 : Bx v2525 q1508 24 #[.bool false, .slice none 0 0] := (E2525.far q1508 b2504.lt (by simp)).trans b2504
    have b2540 : Bx v2525 q1517 24 #[.bool false, .slice none 0 0] := (E2525.far q1517 b2505.lt (by simp)).trans b2505
    have b2541 : Bx v2525 q1527 24 #[.bool false, .slice none 0 0] := (E2525.far q1527 b2506.lt (by simp)).trans b2506
    have b2542 : Bx v2525 q1583 t1593 #[.bool x1595, .slice A1596 m1597 c1598] := (E2525.far q1583 b2507.lt (by simp)).trans b2507
    have b2543 : Bx v2525 q1631 ty8 #[.bool b8_, .slice A8_ m8_ c8_] := (E2525.far q1631 b2508.lt (by simp)).trans b2508
    have b2544 : Bx v2525 q1642 ty9 #[.bool b9_, .slice A9_ m9_ c9_] := (E2525.far q1642 b2509.lt (by simp)).trans b2509
    have b2545 : Bx v2525 q1708 ty10 #[.bool b10_, .slice A10_ m10_ c10_] := (E2525.far q1708 b2510.lt (by simp)).trans b2510
    have b2546 : Bx v2525 q1721 ty11 #[.bool b11_, .slice A11_ m11_ c11_] := (E2525.far q1721 b2511.lt (by simp)).trans b2511
    have f2547 := f2512.mono E2525.mono
    have f2548 := f2513.mono E2525.mono
    have f2549 := f2514.mono E2525.mono
    have f2550 := f2515.mono E2525.mono
    have f2551 := f2516.mono E2525.mono
    have f2552 := f2517.mono E2525.mono
    have f2553 := f2518.mono E2525.mono
    have f2554 := f2519.mono E2525.mono
    have f2555 := f2520.mono E2525.mono
    have f2556 := f2521.mono E2525.mono
    have f2557 := f2522.mono E2525.mono
    have f2558 : Cz v2525 (g2525 0) r1 := E2525.facts 0 (by decide)
    have f2559 : Cz v2525 (g2525 1) s1 := E2525.facts 1 (by decide)
    have f2560 : Cz v2525 (g2525 4) (fl r1 s1) := E2525.facts 4 (by decide)
    have f2561 : Cz v2525 (g2525 5) (md r1 s1) := E2525.facts 5 (by decide)
    obtain ⟨q2562, p2563, l2564, o2565⟩ : ∃ q, g2525 6 = .pointer (some ⟨q, 0, none⟩) ∧ v2490.heap.size ≤ q ∧ OkB v2525 q 2 := E2525.facts 6 (by decide)
    have h2566 : w.heap.size ≤ q2562 := Nat.le_trans HB l2564
    have n2567 : q1495 ≠ q2562 := by omega
    have n2568 : q1501 ≠ q2562 := by omega
    have n2569 : q1508 ≠ q2562 := by omega
    have n2570 : q1517 ≠ q2562 := by omega
    have n2571 : q1527 ≠ q2562 := by omega
    have n2572 : q1583 ≠ q2562 := by omega
    have n2573 : q1631 ≠ q2562 := by omega
    have n2574 : q1642 ≠ q2562 := by omega
    have n2575 : q1708 ≠ q2562 := by omega
    have n2576 : q1721 ≠ q2562 := by omega
    obtain ⟨q2577, p2578, l2579, o2580⟩ : ∃ q, g2525 7 = .pointer (some ⟨q, 0, none⟩) ∧ v2490.heap.size ≤ q ∧ OkB v2525 q 2 := E2525.facts 7 (by decide)
    have h2581 : w.heap.size ≤ q2577 := Nat.le_trans HB l2579
    have n2582 : q1495 ≠ q2577 := by omega
    have n2583 : q1501 ≠ q2577 := by omega
    have n2584 : q1508 ≠ q2577 := by omega
    have n2585 : q1517 ≠ q2577 := by omega
    have n2586 : q1527 ≠ q2577 := by omega
    have n2587 : q1583 ≠ q2577 := by omega
    have n2588 : q1631 ≠ q2577 := by omega
    have n2589 : q1642 ≠ q2577 := by omega
    have n2590 : q1708 ≠ q2577 := by omega
    have n2591 : q1721 ≠ q2577 := by omega
    have n2592 : q2562 ≠ q2577 := apart_ne (E2525.apart 6 7 (by decide) (by decide) (by decide) ⟨_, _, rfl⟩ ⟨_, _, rfl⟩) p2563 p2578
    obtain ⟨t2593, x2595, A2596, m2597, c2598, e2599, b2594⟩ := put_info (E2525.facts 8 (by decide)) p2563 f2560.shape
    have f2600 : Cz v2525 (.agg #[.bool x2595, .slice A2596 m2597 c2598]) (fl r1 s1) := f2560.at e2599.symm
    obtain ⟨t2601, x2603, A2604, m2605, c2606, e2607, b2602⟩ := put_info (E2525.facts 9 (by decide)) p2578 f2561.shape
    have f2608 : Cz v2525 (.agg #[.bool x2603, .slice A2604 m2605 c2606]) (md r1 s1) := f2561.at e2607.symm
    refine then_normal ?_
    refine wp_seq ?_
    have HB : w.heap.size ≤ v2525.heap.size := T2526.size
    refine wp_plan_any [.val (.cz u1), .val (.cz x1), .val (.cz (fl r1 s1)), .val (.cz u1), .val (.cz ((fl r1 s1) * u1)), .val (.cz (x1 - ((fl r1 s1) * u1))), .put 10 43, .put 11 48] [10, 11] [q1708, q1721] w.heap.size (by kernel_rfl) (by kernel_rfl) (by kernel_rfl) ⟨p1760, b2545.lt, (nin1 n1734), ⟨p1761, b2546.lt, (by simp), trivial⟩⟩ HB ?_ ?_
    · exact ⟨fun s v h => does_val rfl rfl (x_load_z ((h.same 11 rfl).trans p1761) ((h.held 7 11 48 _ rfl rfl rfl p1761).trans b2546)) (f2556.mono ((Mono.drew _).trans h.mono)),
      fun s v h => does_val rfl rfl (x_load_z ((h.same 10 rfl).trans p1760) ((h.held 6 10 43 _ rfl rfl rfl p1760).trans b2545)) (f2555.mono ((Mono.drew _).trans h.mono)),
      fun s v h => does_val rfl rfl (x_load_z ((h.same 12 rfl).trans p2563) ((h.far q2562 b2594.lt (nin2 n2575.symm n2576.symm)).trans b2594)) (f2600.mono ((Mono.drew _).trans h.mono)),
      fun s v h => does_val rfl rfl (x_load_z ((h.same 11 rfl).trans p1761) ((h.held 7 11 48 _ rfl rfl rfl p1761).trans b2546)) (f2556.mono ((Mono.drew _).trans h.mono)),
      fun s v h => does_call rfl rfl (x_call2 Try.call71) (r2mul_k ((h.dep 2 rfl).az (N := (N + 1)) (fl_len lr)) ((h.dep 3 rfl).az (N := N) lu) (by omega)),
      fun s v h => does_call rfl rfl (x_call2 Try.call70) (r2sub_k ((h.dep 1 rfl).az (N := N) lx) ((h.dep 4 rfl).az (N := ((N + 1) + N)) (len_mul (fl_len lr) lu)) (by omega) (by omega)),
      fun s v h => does_put_z rfl rfl ((h.same 10 rfl).trans p1760) (h.dep 0 rfl).shape (((Mono.drew _).trans h.mono).ok _ _ b2545.ok2) h1712,
      fun s v h => does_put_z rfl rfl ((h.same 11 rfl).trans p1761) (h.dep 5 rfl).shape (((Mono.drew _).trans h.mono).ok _ _ b2546.ok2) h1725, trivial⟩
    intro g2609 ts v2609 hts E2609
    simp only [fillL, Nat.reduceAdd, List.setIfInBounds_toArray, List.set_cons_zero, List.set_cons_succ] at hts
    subst hts
    have T2610 : Below w.heap.size w v2609 := (below_toDrew T2526).trans E2609.below
    have l2611 : q1495 < v2525.heap.size := b2537.lt
    have l2612 : q1501 < v2525.heap.size := b2538.lt
    have l2613 : q1508 < v2525.heap.size := b2539.lt
    have l2614 : q1517 < v2525.heap.size := b2540.lt
    have l2615 : q1527 < v2525.heap.size := b2541.lt
    have l2616 : q1583 < v2525.heap.size := b2542.lt
    have l2617 : q1631 < v2525.heap.size := b2543.lt
    have l2618 : q1642 < v2525.heap.size := b2544.lt
    have l2619 : q1708 < v2525.heap.size := b2545.lt
    have l2620 : q1721 < v2525.heap.size := b2546.lt
    have l2621 : q2562 < v2525.heap.size := b2594.lt
    have l2622 : q2577 < v2525.heap.size := b2602.lt
    have b2623 : Bx v2609 q1495 24 #[.bool na0, .slice A0 n0 c0] := (E2609.far q1495 b2537.lt (nin2 n1713 n1726)).trans b2537
    have b2624 : Bx v2609 q1501 24 #[.bool na1, .slice A1 n1 c1] := (E2609.far q1501 b2538.lt (nin2 n1714 n1727)).trans b2538
    have b2625 : Bx v2609 q1508 24 #[.bool false, .slice none 0 0] := (E2609.far q1508 b2539.lt (nin2 n1715 n1728)).trans b2539
    have b2626 : Bx v2609 q1517 24 #[.bool false, .slice none 0 0] := (E2609.far q1517 b2540.lt (nin2 n1716 n1729)).trans b2540
    have b2627 : Bx v2609 q1527 24 #[.bool false, .slice none 0 0] := (E2609.far q1527 b2541.lt (nin2 n1717 n1730)).trans b2541
    have b2628 : Bx v2609 q1583 t1593 #[.bool x1595, .slice A1596 m1597 c1598] := (E2609.far q1583 b2542.lt (nin2 n1718 n1731)).trans b2542
    have b2629 : Bx v2609 q1631 ty8 #[.bool b8_, .slice A8_ m8_ c8_] := (E2609.far q1631 b2543.lt (nin2 n1719 n1732)).trans b2543
    have b2630 : Bx v2609 q1642 ty9 #[.bool b9_, .slice A9_ m9_ c9_] := (E2609.far q1642 b2544.lt (nin2 n1720 n1733)).trans b2544
    have b2631 : Bx v2609 q2562 t2593 #[.bool x2595, .slice A2596 m2597 c2598] := (E2609.far q2562 b2594.lt (nin2 n2575.symm n2576.symm)).trans b2594
    have b2632 : Bx v2609 q2577 t2601 #[.bool x2603, .slice A2604 m2605 c2606] := (E2609.far q2577 b2602.lt (nin2 n2590.symm n2591.symm)).trans b2602
    have f2633 := f2547.mono ((Mono.drew _).trans E2609.mono)
    have f2634 := f2548.mono ((Mono.drew _).trans E2609.mono)
    have f2635 := f2549.mono ((Mono.drew _).trans E2609.mono)
    have f2636 := f2550.mono ((Mono.drew _).trans E2609.mono)
    have f2637 := f2551.mono ((Mono.drew _).trans E2609.mono)
    have f2638 := f2552.mono ((Mono.drew _).trans E2609.mono)
    have f2639 := f2553.mono ((Mono.drew _).trans E2609.mono)
    have f2640 := f2554.mono ((Mono.drew _).trans E2609.mono)
    have f2641 := f2555.mono ((Mono.drew _).trans E2609.mono)
    have f2642 := f2556.mono ((Mono.drew _).trans E2609.mono)
    have f2643 := f2557.mono ((Mono.drew _).trans E2609.mono)
    have f2644 := f2558.mono ((Mono.drew _).trans E2609.mono)
    have f2645 := f2559.mono ((Mono.drew _).trans E2609.mono)
    have f2646 := f2560.mono ((Mono.drew _).trans E2609.mono)
    have f2647 := f2561.mono ((Mono.drew _).trans E2609.mono)
    have f2648 := f2600.mono ((Mono.drew _).trans E2609.mono)
    have f2649 := f2608.mono ((Mono.drew _).trans E2609.mono)
    have f2650 : Cz v2609 (g2609 0) u1 := E2609.facts 0 (by decide)
    have f2651 : Cz v2609 (g2609 1) x1 := E2609.facts 1 (by decide)
    have f2652 : Cz v2609 (g2609 2) (fl r1 s1) := E2609.facts 2 (by decide)
    have f2653 : Cz v2609 (g2609 3) u1 := E2609.facts 3 (by decide)
    have f2654 : Cz v2609 (g2609 4) ((fl r1 s1) * u1) := E2609.facts 4 (by decide)
    have f2655 : Cz v2609 (g2609 5) (x1 - ((fl r1 s1) * u1)) := E2609.facts 5 (by decide)
    obtain ⟨t2656, x2658, A2659, m2660, c2661, e2662, b2657⟩ := put_info (E2609.facts 6 (by decide)) p1760 f2650.shape
    have f2663 : Cz v2609 (.agg #[.bool x2658, .slice A2659 m2660 c2661]) u1 := f2650.at e2662.symm
    obtain ⟨t2664, x2666, A2667, m2668, c2669, e2670, b2665⟩ := put_info (E2609.facts 7 (by decide)) p1761 f2655.shape
    have f2671 : Cz v2609 (.agg #[.bool x2666, .slice A2667 m2668 c2669]) (x1 - ((fl r1 s1) * u1)) := f2655.at e2670.symm
    refine then_normal ?_
    have HB : w.heap.size ≤ v2609.heap.size := T2610.size
    refine wp_plan_any [.val (.cz s1), .val (.cz (md r1 s1)), .put 8 49, .put 9 50] [8, 9] [q1631, q1642] w.heap.size (by kernel_rfl) (by kernel_rfl) (by kernel_rfl) ⟨p1758, b2629.lt, (nin1 n1653), ⟨p1759, b2630.lt, (by simp), trivial⟩⟩ HB ?_ ?_
    · exact ⟨fun s v h => does_val rfl rfl (x_load_z ((h.same 9 rfl).trans p1759) ((h.held 3 9 50 _ rfl rfl rfl p1759).trans b2630)) (f2640.mono ((Mono.drew _).trans h.mono)),
      fun s v h => does_val rfl rfl (x_load_z ((h.same 13 rfl).trans p2578) ((h.far q2577 b2632.lt (nin2 n2588.symm n2589.symm)).trans b2632)) (f2649.mono ((Mono.drew _).trans h.mono)),
      fun s v h => does_put_z rfl rfl ((h.same 8 rfl).trans p1758) (h.dep 0 rfl).shape (((Mono.drew _).trans h.mono).ok _ _ b2629.ok2) h1635,
      fun s v h => does_put_z rfl rfl ((h.same 9 rfl).trans p1759) (h.dep 1 rfl).shape (((Mono.drew _).trans h.mono).ok _ _ b2630.ok2) h1646, trivial⟩
    intro g2672 ts v2672 hts E2672
    simp only [fillL, Nat.reduceAdd, List.setIfInBounds_toArray, List.set_cons_zero, List.set_cons_succ] at hts
    subst hts
    have T2673 : Below w.heap.size w v2672 := (below_toDrew T2610).trans E2672.below
    have l2674 : q1495 < v2609.heap.size := b2623.lt
    have l2675 : q1501 < v2609.heap.size := b2624.lt
    have l2676 : q1508 < v2609.heap.size := b2625.lt
    have l2677 : q1517 < v2609.heap.size := b2626.lt
    have l2678 : q1527 < v2609.heap.size := b2627.lt
    have l2679 : q1583 < v2609.heap.size := b2628.lt
    have l2680 : q1631 < v2609.heap.size := b2629.lt
    have l2681 : q1642 < v2609.heap.size := b2630.lt
    have l2682 : q1708 < v2609.heap.size := b2657.lt
    have l2683 : q1721 < v2609.heap.size := b2665.lt
    have l2684 : q2562 < v2609.heap.size := b2631.lt
    have l2685 : q2577 < v2609.heap.size := b2632.lt
    have b2686 : Bx v2672 q1495 24 #[.bool na0, .slice A0 n0 c0] := (E2672.far q1495 b2623.lt (nin2 n1636 n1647)).trans b2623
    have b2687 : Bx v2672 q1501 24 #[.bool na1, .slice A1 n1 c1] := (E2672.far q1501 b2624.lt (nin2 n1637 n1648)).trans b2624
    have b2688 : Bx v2672 q1508 24 #[.bool false, .slice none 0 0] := (E2672.far q1508 b2625.lt (nin2 n1638 n1649)).trans b2625
    have b2689 : Bx v2672 q1517 24 #[.bool false, .slice none 0 0] := (E2672.far q1517 b2626.lt (nin2 n1639 n1650)).trans b2626
    have b2690 : Bx v2672 q1527 24 #[.bool false, .slice none 0 0] := (E2672.far q1527 b2627.lt (nin2 n1640 n1651)).trans b2627
    have b2691 : Bx v2672 q1583 t1593 #[.bool x1595, .slice A1596 m1597 c1598] := (E2672.far q1583 b2628.lt (nin2 n1641 n1652)).trans b2628
    have b2692 : Bx v2672 q1708 t2656 #[.bool x2658, .slice A2659 m2660 c2661] := (E2672.far q1708 b2657.lt (nin2 n1719.symm n1720.symm)).trans b2657
    have b2693 : Bx v2672 q1721 t2664 #[.bool x2666, .slice A2667 m2668 c2669] := (E2672.far q1721 b2665.lt (nin2 n1732.symm n1733.symm)).trans b2665
    have b2694 : Bx v2672 q2562 t2593 #[.bool x2595, .slice A2596 m2597 c2598] := (E2672.far q2562 b2631.lt (nin2 n2573.symm n2574.symm)).trans b2631
    have b2695 : Bx v2672 q2577 t2601 #[.bool x2603, .slice A2604 m2605 c2606] := (E2672.far q2577 b2632.lt (nin2 n2588.symm n2589.symm)).trans b2632
    have f2696 := f2633.mono ((Mono.drew _).trans E2672.mono)
    have f2697 := f2634.mono ((Mono.drew _).trans E2672.mono)
    have f2698 := f2635.mono ((Mono.drew _).trans E2672.mono)
    have f2699 := f2636.mono ((Mono.drew _).trans E2672.mono)
    have f2700 := f2637.mono ((Mono.drew _).trans E2672.mono)
    have f2701 := f2638.mono ((Mono.drew _).trans E2672.mono)
    have f2702 := f2639.mono ((Mono.drew _).trans E2672.mono)
    have f2703 := f2640.mono ((Mono.drew _).trans E2672.mono)
    have f2704 := f2641.mono ((Mono.drew _).trans E2672.mono)
    have f2705 := f2642.mono ((Mono.drew _).trans E2672.mono)
    have f2706 := f2643.mono ((Mono.drew _).trans E2672.mono)
    have f2707 := f2644.mono ((Mono.drew _).trans E2672.mono)
    have f2708 := f2645.mono ((Mono.drew _).trans E2672.mono)
    have f2709 := f2646.mono ((Mono.drew _).trans E2672.mono)
    have f2710 := f2647.mono ((Mono.drew _).trans E2672.mono)
    have f2711 := f2648.mono ((Mono.drew _).trans E2672.mono)
    have f2712 := f2649.mono ((Mono.drew _).trans E2672.mono)
    have f2713 := f2650.mono ((Mono.drew _).trans E2672.mono)
    have f2714 := f2651.mono ((Mono.drew _).trans E2672.mono)
    have f2715 := f2652.mono ((Mono.drew _).trans E2672.mono)
    have f2716 := f2653.mono ((Mono.drew _).trans E2672.mono)
    have f2717 := f2654.mono ((Mono.drew _).trans E2672.mono)
    have f2718 := f2655.mono ((Mono.drew _).trans E2672.mono)
    have f2719 := f2663.mono ((Mono.drew _).trans E2672.mono)
    have f2720 := f2671.mono ((Mono.drew _).trans E2672.mono)
    have f2721 : Cz v2672 (g2672 0) s1 := E2672.facts 0 (by decide)
    have f2722 : Cz v2672 (g2672 1) (md r1 s1) := E2672.facts 1 (by decide)
    obtain ⟨t2723, x2725, A2726, m2727, c2728, e2729, b2724⟩ := put_info (E2672.facts 2 (by decide)) p1758 f2721.shape
    have f2730 : Cz v2672 (.agg #[.bool x2725, .slice A2726 m2727 c2728]) s1 := f2721.at e2729.symm
    obtain ⟨t2731, x2733, A2734, m2735, c2736, e2737, b2732⟩ := put_info (E2672.facts 3 (by decide)) p1759 f2722.shape
    have f2738 : Cz v2672 (.agg #[.bool x2733, .slice A2734 m2735 c2736]) (md r1 s1) := f2722.at e2737.symm
    refine block_normal ?_
    refine then_normal ?_
    exact ⟨rfl, rfl, _, (by rw [hk]; exact md_lt hs), s1, (md r1 s1), u1, (x1 - (fl r1 s1) * u1), t2723, x2725, A2726, m2727, c2728, t2731, x2733, A2734, m2735, c2736, t2656, x2658, A2659, m2660, c2661, t2664, x2666, A2667, m2668, c2669, p1752, p1753, p1754, p1755, p1756, p1757, p1758, p1759, p1760, p1761, T2673, b2686, f2696, b2687, f2697, b2688, f2698, b2689, f2699, b2690, f2700, b2691, f2701, b2724, f2730, b2732, f2738, b2692, f2719, b2693, f2720, hJ.step hs, rfl⟩

end Go.Proofs.Ytkidgeeedigkhaa
