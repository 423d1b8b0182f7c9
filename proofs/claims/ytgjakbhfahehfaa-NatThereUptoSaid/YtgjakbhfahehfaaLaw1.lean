/- The statements' own helpers of layer 1: same, copied, kept, awake; a number that is 0 as text. -/
import Derived.Test.YtgjakbhfahehfaaRGcd
namespace Go.Proofs.Ytgjakbhfahehfaa
open Go.RowKit

theorem Own.drawn {w w' : World} {base : Nat} {A : Option Addr} {n c : Nat} {l : List Int} (h : Own w base A n c l) (hd : ∃ k, w' = w.drewN k) : Own w' base A n c l := by
  obtain ⟨k, rfl⟩ := hd
  exact h.drewN k
theorem Row.drawn {w w' : World} {base g c n : Nat} {l : List Int} (h : Row w base g c n l) (hd : ∃ k, w' = w.drewN k) : Row w' base g c n l := by
  obtain ⟨k, rfl⟩ := hd
  exact h.drew k

set_option maxHeartbeats 1000000 in
theorem same_calls (w : World) (A : Option Addr) (n c : Nat) (A' : Option Addr) (c' : Nat) (l : List Int) (ha : Sl w A n c l) (hb : Sl w A' n c' l) :
    Calls Try.prog 11 #[.slice A n c, .slice A' n c'] w (RetQ (.bool true) w) := by
  have hsm := ha.small
  go_enter Try.func11, Try.ntmps11
  go_wp2
  go_loopw [5] (fun iv wr => ∃ i : Nat, i ≤ n ∧ iv = .int .i64 i ∧ Hid (∃ k, wr = w.drewN k)) (fun iv _ => n - (intOf iv).toNat)
  case atStart => exact ⟨0, Nat.zero_le _, rfl, 0, rfl⟩
  case round =>
    obtain ⟨i, hi, rfl, hd⟩ := hrel
    by_cases hlt : i < n
    · obtain ⟨b, off, rfl, hcX⟩ := (ha.drawn hd.out).at_ hlt
      obtain ⟨b', off', rfl, hcY⟩ := (hb.drawn hd.out).at_ hlt
      generalize l.getD i 0 = x at *
      go_wp2
      go_quiet (fail)
      go_wp2
      go_roundw
      case rel => exact ⟨i + 1, by omega, by go_num, drawn_step hd.out _⟩
      case measure => simp [intOf] <;> omega
    · go_wp2
      go_ret
      exact ⟨rfl, hd.out⟩

/-- A copy, with marked room behind it. -/
def RetCopied (n : Nat) (l : List Int) (w : World) (e : Ending) (w' : World) : Prop := ∃ g c, e = .returned (.slice (some ⟨g, 0, none⟩) n c) ∧ Row w' w.heap.size g c (n + 3) (l ++ [77, 78, 79]) ∧ Below w.heap.size w w'
set_option maxHeartbeats 1000000 in
theorem copied_calls (w : World) (A : Option Addr) (n c : Nat) (l : List Int) (h : Sl w A n c l) (hs : n ≤ 35184372088829) :
    Calls Try.prog 8 #[.slice A n c] w (RetCopied n l w) := by
  go_enter Try.func8, Try.ntmps8
  go_wp2_with (first
    | (at_builtin; refine append_u32 _ rfl (.tmp 4) (.tmp 5) rfl w.heap.size none 0 0 [] A n c l rfl rfl (Own.nil _ _) h ?_ ?_ ?_; omega; exact Nat.le_refl _; intro A1 c1 w1 ho1 hg1 _; have hB1 := below_append (Below.refl w.heap.size w) (Own.nil w w.heap.size) (Nat.le_refl _) hg1; rw [List.nil_append, Nat.zero_add] at ho1; rw [Nat.zero_add]; have hL := Row.lit w1 [77, 78, 79] (Lim.cons (by omega) (by omega) (Lim.cons (by omega) (by omega) (Lim.one (by omega) (by omega)))) (by simp) #[.int .u32 77, .int .u32 78, .int .u32 79] rfl)
    | (at_builtin; refine append_u32 _ rfl (.tmp 7) (.tmp 8) rfl w.heap.size A1 n c1 l (some ⟨w1.heap.size, 0, none⟩) 3 3 [77, 78, 79] rfl rfl (ho1.alloc _) hL.toOwn.sl ?_ ?_ ?_; omega; (have := hB1.size; simp; omega); intro A2 c2 w2 ho2 hg2 _; have hB2 := below_append (hB1.alloc hB1.size _) (ho1.alloc _) (Nat.le_refl _) hg2; obtain ⟨g, rfl, hRow⟩ := ho2.row (by omega); have hcap := ownsRow_cap hRow.own))
  go_ret
  exact ⟨g, c2, rfl, hRow, hB2⟩

theorem Row.prefix_ {w : World} {base g c n : Nat} {l r : List Int} (h : Row w base g c (n + r.length) (l ++ r)) : Own w base (some ⟨g, 0, none⟩) n c l := by
  have hl := h.len
  rw [List.length_append] at hl
  have := (h.take n (by omega)).toOwn
  rwa [List.take_append_of_le_length (by omega), List.take_of_length_le (by omega)] at this

set_option maxHeartbeats 1000000 in
theorem kept_calls (w : World) (base g c n : Nat) (A' : Option Addr) (c' : Nat) (l : List Int) (hR : Row w base g c (n + 3) (l ++ [77, 78, 79])) (hb : Sl w A' n c' l) (hs : n ≤ 35184372088829) :
    Calls Try.prog 13 #[.slice (some ⟨g, 0, none⟩) n c, .slice A' n c'] w (RetQ (.bool true) w) := by
  have hO : Own w base (some ⟨g, 0, none⟩) n c l := Row.prefix_ (r := [77, 78, 79]) hR
  have hcap := ownsRow_cap hR.own
  have hln := hb.len
  have h0 := hR.cell n (by omega)
  have h1 := hR.cell (n + 1) (by omega)
  have h2 := hR.cell (n + 2) (by omega)
  have e0 : (l ++ [77, 78, 79]).getD n 0 = 77 := by rw [List.getD_eq_getElem?_getD, List.getElem?_append_right (by omega), hln, Nat.sub_self]; rfl
  have e1 : (l ++ [77, 78, 79]).getD (n + 1) 0 = 78 := by rw [List.getD_eq_getElem?_getD, List.getElem?_append_right (by omega), hln, Nat.add_sub_cancel_left]; rfl
  have e2 : (l ++ [77, 78, 79]).getD (n + 2) 0 = 79 := by rw [List.getD_eq_getElem?_getD, List.getElem?_append_right (by omega), hln, Nat.add_sub_cancel_left]; rfl
  rw [e0] at h0
  rw [e1] at h1
  rw [e2] at h2
  have hsame := Lib.hid (same_calls w (some ⟨g, 0, none⟩) n c A' c' l hO.sl hb)
  clear e0 e1 e2 hln
  go_enter Try.func13, Try.ntmps13
  go_wp2_with fail
  refine hsame.out.mono ?_
  rintro e w1 ⟨rfl, hd⟩
  obtain ⟨k, rfl⟩ := hd
  go_wp2
  go_ret
  exact ⟨rfl, k, rfl⟩

set_option maxHeartbeats 400000 in
theorem text_zero (w : World) (A : Option Addr) (n c : Nat) (l : List Int) (h : Sl w A n c l) (h0 : val l = 0) (hs : n ≤ 35184372088829) :
    Calls Try.prog 16 #[.slice A n c] w fun e w' => e = .returned (.string ⟨#[48]⟩) ∧ Below w.heap.size w w' := by
  have e0 := Lib.hid (show (digs (val l)).length = 0 by rw [h0, digs_zero]; rfl)
  go_enter Try.func16, Try.ntmps16
  go_wp2_with fail
  refine (norm_calls _ _ _ _ _ h (by omega)).mono ?_
  rintro e w1 ⟨A1, c1, rfl, hO, hB⟩
  rw [e0.out]
  go_wp2
  go_ret
  exact ⟨rfl, hB⟩

theorem digs_small {n : Nat} (h0 : 0 < n) (h1 : n < 4294967296) : digs n = [(n : Int)] := by
  rw [digs_pos h0, Nat.mod_eq_of_lt h1, Nat.div_eq_of_lt h1, digs_zero]

set_option maxHeartbeats 1000000 in
theorem awake_calls (w : World) : Calls Try.prog 12 #[] w fun e w' => e = .returned (.bool true) ∧ Below w.heap.size w w' := by
  go_enter Try.func12, Try.ntmps12
  go_wp2_with fail
  have h7 := (Row.lit1 w (x := 7) (by omega) (by omega)).alloc (.cells #[.int .u32 2] 31)
  have h2 := Row.lit1 (w.alloc (.cells #[.int .u32 7] 31)) (x := 2) (by omega) (by omega)
  rw [show (w.alloc (.cells #[.int .u32 7] 31)).heap.size = w.heap.size + 1 by simp] at h2
  have hB := ((Below.refl w.heap.size w).alloc (Nat.le_refl _) (.cells #[.int .u32 7] 31)).alloc (by simp) (.cells #[.int .u32 2] 31)
  have v7 : val [7] = 7 := val_one 7
  have v2 : val [2] = 2 := val_one 2
  have hdiv := div_calls _ _ _ _ _ _ _ _ _ h7.toOwn.sl h2.toOwn.sl (by omega) (by omega)
  rw [v7, v2] at hdiv
  replace hdiv := Lib.hid hdiv
  clear v7 v2
  refine hdiv.out.mono ?_
  rintro e w1 ⟨A1, c1, A2, c2, rfl, hq, hr, hne, hB1⟩
  have hB1' := below_step hB hB1
  rw [show digs (7 / 2) = [3] from digs_small (by omega) (by omega)] at hq ⊢
  rw [show digs (7 % 2) = [1] from digs_small (by omega) (by omega)] at hr ⊢
  replace hq : Own _ _ A1 1 c1 [3] := hq
  replace hr : Own _ _ A2 1 c2 [1] := hr
  rw [show ([3] : List Int).length = 1 from rfl, show ([1] : List Int).length = 1 from rfl]
  go_wp2_with fail
  have h3 := Row.lit1 w1 (x := 3) (by omega) (by omega)
  refine (same_calls _ _ 1 _ _ _ [3] (hq.sl.alloc _) h3.toOwn.sl).mono ?_
  rintro e w2 ⟨rfl, k, rfl⟩
  have hr2 := ((hr.alloc (.cells #[.int .u32 3] 31)).drewN k)
  have hB2 := below_drawn (hB1'.alloc hB1'.size (.cells #[.int .u32 3] 31)) ⟨k, rfl⟩
  generalize (w1.alloc (.cells #[.int .u32 3] 31)).drewN k = w2 at *
  go_wp2_with fail
  have h1 := Row.lit1 w2 (x := 1) (by omega) (by omega)
  refine (same_calls _ _ 1 _ _ _ [1] (hr2.sl.alloc _) h1.toOwn.sl).mono ?_
  rintro e w3 ⟨rfl, k3, rfl⟩
  have hB3 := below_drawn (hB2.alloc hB2.size (.cells #[.int .u32 1] 31)) ⟨k3, rfl⟩
  generalize (w2.alloc (.cells #[.int .u32 1] 31)).drewN k3 = w3 at *
  go_wp2_with fail
  refine (text_zero w3 none 0 0 [] (Sl.nil _ _ _) rfl (by omega)).mono ?_
  rintro e w4 ⟨rfl, hB4⟩
  go_wp2
  go_ret
  exact ⟨rfl, below_step hB3 hB4⟩
end Go.Proofs.Ytgjakbhfahehfaa
