/- The reference's Norm, limb, most, Cmp. -/
import Derived.Test.YtgjakbhfahehfaaBits
namespace Go.Proofs.Ytgjakbhfahehfaa
open Go.RowKit

theorem getD_ge {l : List Int} {i : Nat} (h : l.length ≤ i) : l.getD i 0 = 0 := by rw [List.getD_eq_getElem?_getD, List.getElem?_eq_none h]; rfl
theorem take_snoc (l : List Int) (k : Nat) (h : k < l.length) : l.take (k + 1) = l.take k ++ [l.getD k 0] := by
  rw [List.take_succ_eq_append_getElem h, List.getD_eq_getElem?_getD, List.getElem?_eq_getElem h]
  rfl

set_option maxHeartbeats 1000000 in
theorem rnorm_calls (w : World) (A : Option Addr) (n c : Nat) (l : List Int) (h : Sl w A n c l) (hs : n ≤ 35184372088832) :
    Calls Try.prog 35 #[.slice A n c] w (RetNum (val l) w) := by
  have hle := h.le
  have hsm := h.small
  obtain rfl := h.len
  go_enter Try.func35, Try.ntmps35
  go_wp2
  go_loop [3] (fun s => ∃ m : Nat, m ≤ l.length ∧ Hid (val (l.take m) = val l) ∧ s = .int .i64 m) (fun s => (intOf s).toNat)
  case atStart => exact ⟨l.length, Nat.le_refl _, by unfold Hid; rw [List.take_length], rfl⟩
  case round =>
    obtain ⟨m, hm, hv, rfl⟩ := hrel
    by_cases hgo : 0 < m ∧ l.getD (m - 1) 0 = 0
    · obtain ⟨hp, hz⟩ := hgo
      obtain ⟨b, off, rfl, hc⟩ := h.at_ (i := m - 1) (by omega)
      have e1 := Lib.hid (val_take_pred hp hm hz)
      rw [hz] at hc
      clear hz
      go_wp2
      go_round
      case rel => exact ⟨m - 1, by omega, by unfold Hid; rw [e1.out]; exact hv, by go_num⟩
      case measure => simp [intOf] <;> omega
    · rcases Nat.eq_zero_or_pos m with h0 | h0
      · subst h0
        have e1 := Lib.hid (show (digs (val l)).length = 0 by rw [← hv.out]; simp [val, digs_zero])
        clear hgo
        go_wp2
        refine wp_loop_rounds 1 ?_
        rw [rounds_succ]
        go_wp2
        go_ret
        have e0 : digs (val l) = [] := List.eq_nil_of_length_eq_zero e1.out
        exact ⟨none, 0, by rw [e0]; rfl, by rw [e0]; exact Own.nil _ _, Below.refl _ _⟩
      · obtain ⟨b, off, rfl, hc⟩ := h.at_ (i := m - 1) (by omega)
        have hz : l.getD (m - 1) 0 ≠ 0 := fun e => hgo ⟨h0, e⟩
        have e1 := Lib.hid (len_of_top h.lim h0 hm hv.out hz)
        generalize l.getD (m - 1) 0 = x at hc hz
        have hz' : (x == 0) = false := beq_eq_false_iff_ne.2 hz
        clear hgo hz
        go_wp2
        go_loopw [4, 5] (fun ov iv wr => ∃ (k : Nat) (A1 : Option Addr) (c1 : Nat), k ≤ m ∧ iv = .int .i64 k ∧ ov = .slice A1 k c1 ∧ Own wr w.heap.size A1 k c1 (l.take k) ∧ Below w.heap.size w wr) (fun _ iv _ => m - (intOf iv).toNat)
        case atStart => exact ⟨0, none, 0, Nat.zero_le _, rfl, rfl, Own.nil _ _, Below.refl _ _⟩
        case round =>
          obtain ⟨k, A1, c1, hk, rfl, rfl, hO, hB⟩ := hrel
          by_cases hlt : k < m
          · have hcc := (h.below hB).cells (by omega)
            obtain ⟨b2, off2, he, _, hcc⟩ := hcc
            cases he
            have hck := hcc k (by omega)
            clear hcc
            have hx := h.lim.getD k
            have hts := Lib.hid (take_snoc l k (by omega))
            generalize l.getD k 0 = y at *
            go_wp2_with (at_builtin; refine append_u32 _ rfl _ _ rfl w.heap.size A1 k c1 (l.take k) _ 1 1 [y] rfl rfl (hO.alloc _) (Row.lit1 _ hx.1 hx.2).toOwn.sl ?_ ?_ ?_; omega; (have := hB.size; simp; omega); intro A2 c2 w4 hO4 hg4 hat4; have hB4 := below_append (hB.alloc hB.size _) (hO.alloc _) (Nat.le_refl _) hg4)
            rw [← hts.out] at hO4
            go_roundw
            case rel => exact ⟨k + 1, A2, c2, by omega, by go_num, rfl, hO4, hB4⟩
            case measure => simp [intOf] <;> omega
          · obtain rfl : k = m := by omega
            go_wp2
            go_ret
            have e2 := strip_take h.lim
            rw [e1.out] at e2
            rw [e2] at hO
            exact ⟨A1, c1, by rw [e1.out]; rfl, by rw [e1.out]; exact hO, hB⟩

theorem limb_calls (w : World) (A : Option Addr) (n c : Nat) (l : List Int) (i : Int) (h : Sl w A n c l) (h0 : 0 ≤ i) :
    Calls Try.prog 41 #[.slice A n c, .int .i64 i] w fun e w' => e = .returned (.int .u64 (l.getD i.toNat 0)) ∧ w = w' := by
  obtain ⟨k, rfl⟩ := Int.eq_ofNat_of_zero_le h0
  rw [Int.toNat_natCast]
  have hsm := h.small
  obtain rfl := h.len
  by_cases hlt : k < l.length
  · obtain ⟨b, off, rfl, hc⟩ := h.at_ hlt
    have hx := h.lim.getD k
    generalize l.getD k 0 = x at *
    go_enter Try.func41, Try.ntmps41
    go_wp2
    go_ret
    exact ⟨rfl, rfl⟩
  · have e := Lib.hid (getD_ge (l := l) (i := k) (by omega))
    rw [e.out]
    go_enter Try.func41, Try.ntmps41
    go_wp2
    go_ret
    exact ⟨rfl, rfl⟩

theorem most_calls (w : World) (a b : Int) : Calls Try.prog 47 #[.int .i64 a, .int .i64 b] w fun e w' => e = .returned (.int .i64 (max a b)) ∧ w = w' := by
  by_cases h : b < a
  · have e := Lib.hid (Int.max_eq_left (Int.le_of_lt h))
    rw [e.out]
    go_enter Try.func47, Try.ntmps47
    go_wp2
    go_ret
    exact ⟨rfl, rfl⟩
  · have e := Lib.hid (Int.max_eq_right (show a ≤ b by omega))
    rw [e.out]
    go_enter Try.func47, Try.ntmps47
    go_wp2
    go_ret
    exact ⟨rfl, rfl⟩

theorem val_drop_any (X : List Int) (i : Nat) : val (X.drop i) = (X.getD i 0).toNat + 4294967296 * val (X.drop (i + 1)) := by
  by_cases h : i < X.length
  · exact val_drop_eq X i h
  · rw [val_drop_ge _ _ (by omega), val_drop_ge _ _ (by omega), getD_ge (by omega)]; rfl
theorem val_split_any (X : List Int) (i : Nat) : val X = val (X.take i) + 4294967296 ^ i * val (X.drop i) := by
  by_cases h : i ≤ X.length
  · exact val_take_drop X i h
  · rw [val_drop_ge _ _ (by omega), List.take_of_length_le (by omega)]; rfl
theorem val_take_lt {X : List Int} (hX : Lim X) (i : Nat) : val (X.take i) < 4294967296 ^ i := by
  have := val_lt (hX.take i)
  refine Nat.lt_of_lt_of_le this (Nat.pow_le_pow_right (by omega) (by simp; omega))
theorem val_lt_any {X Y : List Int} (hX : Lim X) (hY : Lim Y) (i : Nat) (he : val (X.drop (i + 1)) = val (Y.drop (i + 1))) (hlt : X.getD i 0 < Y.getD i 0) : val X < val Y := by
  have e1 := val_split_any X i
  have e2 := val_split_any Y i
  have d1 := val_drop_any X i
  have d2 := val_drop_any Y i
  have t1 := val_take_lt hX i
  have hx := hX.getD i
  have hy := hY.getD i
  have hd : val (X.drop i) + 1 ≤ val (Y.drop i) := by omega
  have hm := Nat.mul_le_mul_left (4294967296 ^ i) hd
  rw [Nat.mul_add, Nat.mul_one] at hm
  omega

set_option maxHeartbeats 1000000 in
theorem rcmp_calls (w : World) (A : Option Addr) (n c : Nat) (X : List Int) (A' : Option Addr) (n' c' : Nat) (Y : List Int) (hX : Sl w A n c X) (hY : Sl w A' n' c' Y) :
    Calls Try.prog 40 #[.slice A n c, .slice A' n' c'] w fun e w' => e = .returned (.int .i64 (cmpN (val X) (val Y))) ∧ w = w' := by
  have hs1 := hX.small
  have hs2 := hY.small
  obtain ⟨K, hK⟩ : ∃ K : Nat, K = max n n' := ⟨_, rfl⟩
  have hKi : max (n : Int) (n' : Int) = (K : Int) := by omega
  have HKi := Lib.hid hKi
  have hK2 : K ≤ 70368744177664 := by omega
  have e0 := Lib.hid (show val (X.drop K) = val (Y.drop K) by rw [val_drop_ge X K (by have := hX.len; omega), val_drop_ge Y K (by have := hY.len; omega)])
  clear hKi hK
  go_enter Try.func40, Try.ntmps40
  go_wp2_with fail
  refine (most_calls _ _ _).mono ?_
  rintro e w' ⟨rfl, rfl⟩
  rw [HKi.out]
  go_wp2
  go_loop [5] (fun iv => ∃ j : Nat, j ≤ K ∧ iv = .int .i64 (j - 1) ∧ Hid (val (X.drop j) = val (Y.drop j))) (fun iv => (intOf iv + 1).toNat)
  case atStart => exact ⟨K, Nat.le_refl _, rfl, e0⟩
  case round =>
    obtain ⟨j, hj, rfl, hv⟩ := hrel
    by_cases h0 : j = 0
    · subst h0
      have e1 := Lib.hid (show cmpN (val X) (val Y) = 0 by have := hv.out; simp only [List.drop_zero] at this; rw [this]; exact cmpN_eq _)
      go_wp2
      go_ret
      exact ⟨by rw [e1.out]; rfl, rfl⟩
    · obtain ⟨i, rfl⟩ : ∃ i, j = i + 1 := ⟨j - 1, by omega⟩
      clear h0
      have ei : ((i + 1 : Nat) : Int) - 1 = i := by omega
      rw [ei]
      clear ei
      have hlt1 := Lib.hid (val_lt_any hX.lim hY.lim i hv.out)
      have hlt2 := Lib.hid (val_lt_any hY.lim hX.lim i hv.out.symm)
      have hd1 := val_drop_any X i
      have hd2 := val_drop_any Y i
      have heq := Lib.hid (show X.getD i 0 = Y.getD i 0 → val (X.drop i) = val (Y.drop i) by intro e; rw [hd1, hd2, e, hv.out])
      clear hd1 hd2
      have l1 := Lib.hid (limb_calls w A n c X i hX (by omega))
      have l2 := Lib.hid (limb_calls w A' n' c' Y i hY (by omega))
      rw [Int.toNat_natCast] at l1 l2
      generalize X.getD i 0 = x at *
      generalize Y.getD i 0 = y at *
      go_wp2_with fail
      refine l1.out.mono ?_
      rintro e w' ⟨rfl, rfl⟩
      go_wp2_with fail
      refine l2.out.mono ?_
      rintro e w' ⟨rfl, rfl⟩
      rcases Int.lt_trichotomy x y with h | h | h
      · have e1 := Lib.hid (cmpN_lt (hlt1.out h))
        clear hlt1 hlt2 heq l1 l2
        go_wp2
        go_ret
        exact ⟨by rw [e1.out]; rfl, rfl⟩
      · subst h
        have he := heq.out rfl
        have he := Lib.hid he
        clear heq hlt1 hlt2 l1 l2
        go_wp2
        go_round
        case rel => exact ⟨i, by omega, rfl, he.out⟩
        case measure => simp [intOf] <;> omega
      · have e1 := Lib.hid (cmpN_gt (hlt2.out h))
        clear hlt1 hlt2 heq l1 l2
        go_wp2
        go_ret
        exact ⟨by rw [e1.out]; rfl, rfl⟩
end Go.Proofs.Ytgjakbhfahehfaa
