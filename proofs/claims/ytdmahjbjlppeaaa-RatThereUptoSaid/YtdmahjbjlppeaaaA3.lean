
/- The reference's Norm, limb, most, Cmp. The reference's Bits, Add, less. The reference's Sub. The reference's Mul, small, Two, Shr. The reference's Two, Shr. The reference's Div. The reference's Gcd, Root. -/
import Derived.Test.YtdmahjbjlppeaaaA2
import Derived.Test.YtdmahjbjlppeaaaA1
namespace Go.Proofs.Ytdmahjbjlppeaaa
open Go.RowKit

theorem getD_ge {l : List Int} {i : Nat} (h : l.length ≤ i) : l.getD i 0 = 0 := by rw [List.getD_eq_getElem?_getD, List.getElem?_eq_none h]; rfl
theorem take_snoc (l : List Int) (k : Nat) (h : k < l.length) : l.take (k + 1) = l.take k ++ [l.getD k 0] := by
  rw [List.take_succ_eq_append_getElem h, List.getD_eq_getElem?_getD, List.getElem?_eq_getElem h]
  rfl

set_option maxHeartbeats 1000000 in
theorem rnorm_calls (w : World) (A : Option Addr) (n c : Nat) (l : List Int) (h : Sl w A n c l) (hs : n ≤ 35184372088832) :
    Calls Try.prog 45 #[.slice A n c] w (RetNum (val l) w) := by
  have hle := h.le
  have hsm := h.small
  obtain rfl := h.len
  go_enter Try.func45, Try.ntmps45
  go_wp2
  go_loop [3] (fun s => ∃ m : Nat, m ≤ l.length ∧ Hid (val (l.take m) = val l) ∧ s = .int .i64 m) (fun s => (intOf s).toNat)
  case atStart => exact ⟨l.length, Nat.le_refl _, by unfold Hid; rw [List.take_length], rfl⟩
  case round =>
    obtain ⟨m, hm, hv, rfl⟩ := hrel
    by_cases hgo : 0 < m ∧ l.getD (m - 1) 0 = 0
    · obtain ⟨hp, hz⟩ := hgo
      obtain ⟨b, off, rfl, hc⟩ := h.at_ (i := m - 1) (by omega)
      have e1 := Lib.hid (val_take_pred hp hm hz)
      rw [hz] at hc
      clear hz
      go_wp2
      go_round
      case rel => exact ⟨m - 1, by omega, by unfold Hid; rw [e1.out]; exact hv, by go_num⟩
      case measure => simp [intOf] <;> omega
    · rcases Nat.eq_zero_or_pos m with h0 | h0
      · subst h0
        have e1 := Lib.hid (show (digs (val l)).length = 0 by rw [← hv.out]; simp [val, digs_zero])
        clear hgo
        go_wp2
        refine wp_loop_rounds 1 ?_
        rw [rounds_succ]
        go_wp2
        go_ret
        have e0 : digs (val l) = [] := List.eq_nil_of_length_eq_zero e1.out
        exact ⟨none, 0, by rw [e0]; rfl, by rw [e0]; exact Own.nil _ _, Below.refl _ _⟩
      · obtain ⟨b, off, rfl, hc⟩ := h.at_ (i := m - 1) (by omega)
        have hz : l.getD (m - 1) 0 ≠ 0 := fun e => hgo ⟨h0, e⟩
        have e1 := Lib.hid (len_of_top h.lim h0 hm hv.out hz)
        generalize l.getD (m - 1) 0 = x at hc hz
        have hz' : (x == 0) = false := beq_eq_false_iff_ne.2 hz
        clear hgo hz
        go_wp2
        go_loopw [4, 5] (fun ov iv wr => ∃ (k : Nat) (A1 : Option Addr) (c1 : Nat), k ≤ m ∧ iv = .int .i64 k ∧ ov = .slice A1 k c1 ∧ Own wr w.heap.size A1 k c1 (l.take k) ∧ Below w.heap.size w wr) (fun _ iv _ => m - (intOf iv).toNat)
        case atStart => exact ⟨0, none, 0, Nat.zero_le _, rfl, rfl, Own.nil _ _, Below.refl _ _⟩
        case round =>
          obtain ⟨k, A1, c1, hk, rfl, rfl, hO, hB⟩ := hrel
          by_cases hlt : k < m
          · have hcc := (h.below hB).cells (by omega)
            obtain ⟨b2, off2, he, _, hcc⟩ := hcc
            cases he
            have hck := hcc k (by omega)
            clear hcc
            have hx := h.lim.getD k
            have hts := Lib.hid (take_snoc l k (by omega))
            generalize l.getD k 0 = y at *
            go_wp2_with (at_builtin; refine append_u32 _ rfl _ _ rfl w.heap.size A1 k c1 (l.take k) _ 1 1 [y] rfl rfl (hO.alloc _) (Row.lit1 _ hx.1 hx.2).toOwn.sl ?_ ?_ ?_; omega; (have := hB.size; simp; omega); intro A2 c2 w4 hO4 hg4 hat4; have hB4 := below_append (hB.alloc hB.size _) (hO.alloc _) (Nat.le_refl _) hg4)
            rw [← hts.out] at hO4
            go_roundw
            case rel => exact ⟨k + 1, A2, c2, by omega, by go_num, rfl, hO4, hB4⟩
            case measure => simp [intOf] <;> omega
          · obtain rfl : k = m := by omega
            go_wp2
            go_ret
            have e2 := strip_take h.lim
            rw [e1.out] at e2
            rw [e2] at hO
            exact ⟨A1, c1, by rw [e1.out]; rfl, by rw [e1.out]; exact hO, hB⟩

theorem limb_calls (w : World) (A : Option Addr) (n c : Nat) (l : List Int) (i : Int) (h : Sl w A n c l) (h0 : 0 ≤ i) :
    Calls Try.prog 87 #[.slice A n c, .int .i64 i] w fun e w' => e = .returned (.int .u64 (l.getD i.toNat 0)) ∧ w = w' := by
  obtain ⟨k, rfl⟩ := Int.eq_ofNat_of_zero_le h0
  rw [Int.toNat_natCast]
  have hsm := h.small
  obtain rfl := h.len
  by_cases hlt : k < l.length
  · obtain ⟨b, off, rfl, hc⟩ := h.at_ hlt
    have hx := h.lim.getD k
    generalize l.getD k 0 = x at *
    go_enter Try.func87, Try.ntmps87
    go_wp2
    go_ret
    exact ⟨rfl, rfl⟩
  · have e := Lib.hid (getD_ge (l := l) (i := k) (by omega))
    rw [e.out]
    go_enter Try.func87, Try.ntmps87
    go_wp2
    go_ret
    exact ⟨rfl, rfl⟩

theorem most_calls (w : World) (a b : Int) : Calls Try.prog 109 #[.int .i64 a, .int .i64 b] w fun e w' => e = .returned (.int .i64 (max a b)) ∧ w = w' := by
  by_cases h : b < a
  · have e := Lib.hid (Int.max_eq_left (Int.le_of_lt h))
    rw [e.out]
    go_enter Try.func109, Try.ntmps109
    go_wp2
    go_ret
    exact ⟨rfl, rfl⟩
  · have e := Lib.hid (Int.max_eq_right (show a ≤ b by omega))
    rw [e.out]
    go_enter Try.func109, Try.ntmps109
    go_wp2
    go_ret
    exact ⟨rfl, rfl⟩

theorem val_drop_any (X : List Int) (i : Nat) : val (X.drop i) = (X.getD i 0).toNat + 4294967296 * val (X.drop (i + 1)) := by
  by_cases h : i < X.length
  · exact val_drop_eq X i h
  · rw [val_drop_ge _ _ (by omega), val_drop_ge _ _ (by omega), getD_ge (by omega)]; rfl
theorem val_split_any (X : List Int) (i : Nat) : val X = val (X.take i) + 4294967296 ^ i * val (X.drop i) := by
  by_cases h : i ≤ X.length
  · exact val_take_drop X i h
  · rw [val_drop_ge _ _ (by omega), List.take_of_length_le (by omega)]; rfl
theorem val_take_lt {X : List Int} (hX : Lim X) (i : Nat) : val (X.take i) < 4294967296 ^ i := by
  have := val_lt (hX.take i)
  refine Nat.lt_of_lt_of_le this (Nat.pow_le_pow_right (by omega) (by simp; omega))
theorem val_lt_any {X Y : List Int} (hX : Lim X) (hY : Lim Y) (i : Nat) (he : val (X.drop (i + 1)) = val (Y.drop (i + 1))) (hlt : X.getD i 0 < Y.getD i 0) : val X < val Y := by
  have e1 := val_split_any X i
  have e2 := val_split_any Y i
  have d1 := val_drop_any X i
  have d2 := val_drop_any Y i
  have t1 := val_take_lt hX i
  have hx := hX.getD i
  have hy := hY.getD i
  have hd : val (X.drop i) + 1 ≤ val (Y.drop i) := by omega
  have hm := Nat.mul_le_mul_left (4294967296 ^ i) hd
  rw [Nat.mul_add, Nat.mul_one] at hm
  omega

set_option maxHeartbeats 1000000 in
theorem rcmp_calls (w : World) (A : Option Addr) (n c : Nat) (X : List Int) (A' : Option Addr) (n' c' : Nat) (Y : List Int) (hX : Sl w A n c X) (hY : Sl w A' n' c' Y) :
    Calls Try.prog 86 #[.slice A n c, .slice A' n' c'] w fun e w' => e = .returned (.int .i64 (cmpN (val X) (val Y))) ∧ w = w' := by
  have hs1 := hX.small
  have hs2 := hY.small
  obtain ⟨K, hK⟩ : ∃ K : Nat, K = max n n' := ⟨_, rfl⟩
  have hKi : max (n : Int) (n' : Int) = (K : Int) := by omega
  have HKi := Lib.hid hKi
  have hK2 : K ≤ 70368744177664 := by omega
  have e0 := Lib.hid (show val (X.drop K) = val (Y.drop K) by rw [val_drop_ge X K (by have := hX.len; omega), val_drop_ge Y K (by have := hY.len; omega)])
  clear hKi hK
  go_enter Try.func86, Try.ntmps86
  go_wp2_with fail
  refine (most_calls _ _ _).mono ?_
  rintro e w' ⟨rfl, rfl⟩
  rw [HKi.out]
  go_wp2
  go_loop [5] (fun iv => ∃ j : Nat, j ≤ K ∧ iv = .int .i64 (j - 1) ∧ Hid (val (X.drop j) = val (Y.drop j))) (fun iv => (intOf iv + 1).toNat)
  case atStart => exact ⟨K, Nat.le_refl _, rfl, e0⟩
  case round =>
    obtain ⟨j, hj, rfl, hv⟩ := hrel
    by_cases h0 : j = 0
    · subst h0
      have e1 := Lib.hid (show cmpN (val X) (val Y) = 0 by have := hv.out; simp only [List.drop_zero] at this; rw [this]; exact cmpN_eq _)
      go_wp2
      go_ret
      exact ⟨by rw [e1.out]; rfl, rfl⟩
    · obtain ⟨i, rfl⟩ : ∃ i, j = i + 1 := ⟨j - 1, by omega⟩
      clear h0
      have ei : ((i + 1 : Nat) : Int) - 1 = i := by omega
      rw [ei]
      clear ei
      have hlt1 := Lib.hid (val_lt_any hX.lim hY.lim i hv.out)
      have hlt2 := Lib.hid (val_lt_any hY.lim hX.lim i hv.out.symm)
      have hd1 := val_drop_any X i
      have hd2 := val_drop_any Y i
      have heq := Lib.hid (show X.getD i 0 = Y.getD i 0 → val (X.drop i) = val (Y.drop i) by intro e; rw [hd1, hd2, e, hv.out])
      clear hd1 hd2
      have l1 := Lib.hid (limb_calls w A n c X i hX (by omega))
      have l2 := Lib.hid (limb_calls w A' n' c' Y i hY (by omega))
      rw [Int.toNat_natCast] at l1 l2
      generalize X.getD i 0 = x at *
      generalize Y.getD i 0 = y at *
      go_wp2_with fail
      refine l1.out.mono ?_
      rintro e w' ⟨rfl, rfl⟩
      go_wp2_with fail
      refine l2.out.mono ?_
      rintro e w' ⟨rfl, rfl⟩
      rcases Int.lt_trichotomy x y with h | h | h
      · have e1 := Lib.hid (cmpN_lt (hlt1.out h))
        clear hlt1 hlt2 heq l1 l2
        go_wp2
        go_ret
        exact ⟨by rw [e1.out]; rfl, rfl⟩
      · subst h
        have he := heq.out rfl
        have he := Lib.hid he
        clear heq hlt1 hlt2 l1 l2
        go_wp2
        go_round
        case rel => exact ⟨i, by omega, rfl, he.out⟩
        case measure => simp [intOf] <;> omega
      · have e1 := Lib.hid (cmpN_gt (hlt2.out h))
        clear hlt1 hlt2 heq l1 l2
        go_wp2
        go_ret
        exact ⟨by rw [e1.out]; rfl, rfl⟩
end Go.Proofs.Ytdmahjbjlppeaaa

namespace Go.Proofs.Ytdmahjbjlppeaaa
open Go.RowKit

theorem val_snoc (o : List Int) (x : Int) : val (o ++ [x]) = val o + 4294967296 ^ o.length * x.toNat := by rw [val_append, val_one]
/-- A sum after k rounds, its limbs appended. -/
structure AddApp (X Y o : List Int) (k : Nat) (c : Int) : Prop where
  len : o.length = k
  c0 : 0 ≤ c
  c1 : c ≤ 1
  eq : val o + 4294967296 ^ k * c.toNat = val (X.take k) + val (Y.take k)
theorem AddApp.step {X Y o : List Int} {k : Nat} {c : Int} (h : AddApp X Y o k c) (hX : Lim X) (hY : Lim Y) :
    AddApp X Y (o ++ [(c + X.getD k 0 + Y.getD k 0) % 4294967296]) (k + 1) ((c + X.getD k 0 + Y.getD k 0) / 4294967296) := by
  have hx := hX.getD k
  have hy := hY.getD k
  have h0 := h.c0
  have h1 := h.c1
  refine ⟨by rw [List.length_append, h.len]; rfl, by omega, by omega, ?_⟩
  rw [val_snoc, h.len, val_take_succ' X, val_take_succ' Y, Nat.pow_succ]
  have e := h.eq
  generalize X.getD k 0 = x at *
  generalize Y.getD k 0 = y at *
  have hs : ((c + x + y) % 4294967296).toNat + 4294967296 * ((c + x + y) / 4294967296).toNat = c.toNat + x.toNat + y.toNat := by omega
  generalize ((c + x + y) % 4294967296).toNat = p at *
  generalize ((c + x + y) / 4294967296).toNat = q at *
  generalize 4294967296 ^ k = B at *
  have : B * (p + 4294967296 * q) = B * (c.toNat + x.toNat + y.toNat) := by rw [hs]
  grind
structure LessApp (X Y o : List Int) (k : Nat) (b : Int) : Prop where
  len : o.length = k
  b0 : 0 ≤ b
  b1 : b ≤ 1
  eq : val (X.take k) + 4294967296 ^ k * b.toNat = val o + val (Y.take k)
theorem LessApp.step {X Y o : List Int} {k : Nat} {b : Int} (h : LessApp X Y o k b) (hX : Lim X) (hY : Lim Y) :
    LessApp X Y (o ++ [(X.getD k 0 - b - Y.getD k 0) % 4294967296]) (k + 1) (if X.getD k 0 < Y.getD k 0 + b then 1 else 0) := by
  have hx := hX.getD k
  have hy := hY.getD k
  have h0 := h.b0
  have h1 := h.b1
  refine ⟨by rw [List.length_append, h.len]; rfl, by split <;> omega, by split <;> omega, ?_⟩
  rw [val_snoc, h.len, val_take_succ' X, val_take_succ' Y, Nat.pow_succ]
  have e := h.eq
  generalize X.getD k 0 = x at *
  generalize Y.getD k 0 = y at *
  have hs : x.toNat + 4294967296 * (if x < y + b then (1 : Int) else 0).toNat = ((x - b - y) % 4294967296).toNat + b.toNat + y.toNat := by split <;> omega
  generalize ((x - b - y) % 4294967296).toNat = p at *
  generalize (if x < y + b then (1 : Int) else 0).toNat = q at *
  generalize 4294967296 ^ k = B at *
  have : B * (x.toNat + 4294967296 * q) = B * (p + b.toNat + y.toNat) := by rw [hs]
  grind
theorem LessApp.last {X Y o : List Int} {n : Nat} {b : Int} (h : LessApp X Y o n b) (hX : X.length = n) (hlo : Lim o) (hle : val Y ≤ val X) : val o = val X - val Y := by
  have e := h.eq
  have hyt := val_split_any Y n
  have h2 := val_lt hlo
  rw [h.len] at h2
  rw [List.take_of_length_le (l := X) (by omega)] at e
  have h0 := h.b0
  have h1 := h.b1
  have hxl : val X < 4294967296 ^ n ∨ True := Or.inr trivial
  rcases Nat.eq_zero_or_pos (val (Y.drop n)) with hd | hd
  · rw [hd, Nat.mul_zero, Nat.add_zero] at hyt
    rcases Nat.eq_zero_or_pos b.toNat with hb | hb
    · rw [hb] at e; omega
    · have : b.toNat = 1 := by omega
      rw [this] at e; omega
  · have := Nat.mul_le_mul_left (4294967296 ^ n) hd
    rcases Nat.eq_zero_or_pos b.toNat with hb | hb
    · rw [hb] at e; omega
    · have : b.toNat = 1 := by omega
      rw [this] at e; omega

set_option maxHeartbeats 1000000 in
theorem rbits_calls (w : World) (A : Option Addr) (n c : Nat) (X : List Int) (h : Sl w A n c X) :
    Calls Try.prog 84 #[.slice A n c] w fun e w' => e = .returned (.int .i64 (blen (val X))) ∧ w = w' := by
  have hsm := h.small
  obtain rfl := h.len
  go_enter Try.func84, Try.ntmps84
  go_wp2
  go_loop [3] (fun iv => ∃ j : Nat, j ≤ X.length ∧ iv = .int .i64 (j - 1) ∧ Hid (val (X.take j) = val X)) (fun iv => (intOf iv + 1).toNat)
  case atStart => exact ⟨X.length, Nat.le_refl _, rfl, by unfold Hid; rw [List.take_length]⟩
  case round =>
    obtain ⟨j, hj, rfl, hv⟩ := hrel
    by_cases h0 : j = 0
    · subst h0
      have e1 := Lib.hid (show blen (val X) = 0 by rw [← hv.out]; rfl)
      go_wp2
      go_ret
      exact ⟨by rw [e1.out]; rfl, rfl⟩
    · obtain ⟨i, rfl⟩ : ∃ i, j = i + 1 := ⟨j - 1, by omega⟩
      clear h0
      have ei : ((i + 1 : Nat) : Int) - 1 = i := by omega
      rw [ei]
      clear ei
      obtain ⟨b, off, rfl, hc⟩ := h.at_ (i := i) (by omega)
      have hx := h.lim.getD i
      by_cases hz : X.getD i 0 = 0
      · have e1 := val_take_pred (l := X) (n := i + 1) (by omega) hj hz
        have e1 := Lib.hid e1
        rw [hz] at hc
        clear hz hx
        go_wp2
        go_round
        case rel => exact ⟨i, by omega, rfl, by unfold Hid; rw [← hv.out]; exact e1⟩
        case measure => simp [intOf] <;> omega
      · have hb := blen_top (h.lim.take (i + 1)) (n := i) (by simp; omega) (by rw [List.getD_eq_getElem?_getD, List.getElem?_take, if_pos (by omega), ← List.getD_eq_getElem?_getD]; exact hz)
        rw [hv.out, show (X.take (i + 1)).getD i 0 = X.getD i 0 by rw [List.getD_eq_getElem?_getD, List.getElem?_take, if_pos (by omega), ← List.getD_eq_getElem?_getD]] at hb
        replace hb := Lib.hid hb
        have hbl : blen (X.getD i 0).toNat ≤ 32 := blen_le_iff.2 (by omega)
        generalize X.getD i 0 = x at *
        have hz' : (x != 0) = true := bne_iff_ne.2 hz
        clear hz
        go_wp2
        go_loop [4, 5] (fun nv wv => ∃ (m : Nat) (y : Int), nv = .int .i64 m ∧ wv = .int .u32 y ∧ 0 ≤ y ∧ y < 4294967296 ∧ Hid (m + blen y.toNat = 32 * i + blen x.toNat) ∧ m ≤ 32 * i + 32) (fun _ wv => (intOf wv).toNat)
        case atStart => exact ⟨32 * i, x, by go_num, rfl, hx.1, hx.2, rfl, by omega⟩
        case round =>
          obtain ⟨m, y, rfl, rfl, hy0, hy1, he, hm⟩ := hrel
          by_cases hyp : 0 < y
          · have hh := blen_half (show y.toNat ≠ 0 by omega)
            have he2 : m + 1 + blen (y / 2).toNat = 32 * i + blen x.toNat := by
              have : (y / 2).toNat = y.toNat / 2 := by omega
              rw [this]; have := he.out; omega
            have hm2 : m + 1 ≤ 32 * i + 32 := by omega
            replace he2 := Lib.hid he2
            clear hh
            go_wp2
            go_round
            case rel => exact ⟨m + 1, y / 2, by go_num, rfl, by omega, by omega, he2, hm2⟩
            case measure => simp [intOf] <;> omega
          · obtain rfl : y = 0 := by omega
            have hmt : m = blen (val X) := by
              have h1 := he.out
              have h2 := hb.out
              have h3 : blen (0 : Int).toNat = 0 := rfl
              omega
            replace hmt := Lib.hid hmt
            go_wp2
            go_ret
            exact ⟨by rw [← hmt.out]; rfl, rfl⟩

set_option maxHeartbeats 1000000 in
theorem radd_calls (w : World) (A : Option Addr) (n c : Nat) (X : List Int) (A' : Option Addr) (n' c' : Nat) (Y : List Int) (hX : Sl w A n c X) (hY : Sl w A' n' c' Y) (hs1 : n < 35184372088832) (hs2 : n' < 35184372088832) :
    Calls Try.prog 94 #[.slice A n c, .slice A' n' c'] w (RetNum (val X + val Y) w) := by
  obtain ⟨K, hK⟩ : ∃ K : Nat, K = max n n' := ⟨_, rfl⟩
  have hKi : max (n : Int) (n' : Int) = (K : Int) := by omega
  have HKi := Lib.hid hKi
  have hK2 : K < 35184372088832 := by omega
  have hKX : X.length ≤ K := by have := hX.len; omega
  have hKY : Y.length ≤ K := by have := hY.len; omega
  clear hKi hK
  go_enter Try.func94, Try.ntmps94
  go_wp2
  go_loopw [5, 6, 7] (fun ov cv iv wr => ∃ (k : Nat) (A1 : Option Addr) (c1 : Nat) (o : List Int) (cy : Int), k ≤ K ∧ ov = .slice A1 k c1 ∧ cv = .int .u64 cy ∧ iv = .int .i64 k ∧ Hid (AddApp X Y o k cy) ∧ 0 ≤ cy ∧ cy ≤ 1 ∧ Own wr w.heap.size A1 k c1 o ∧ Below w.heap.size w wr) (fun _ _ iv _ => K - (intOf iv).toNat)
  case atStart => exact ⟨0, none, 0, [], 0, Nat.zero_le _, rfl, rfl, rfl, ⟨rfl, by omega, by omega, by simp [val]⟩, by omega, by omega, Own.nil _ _, Below.refl _ _⟩
  case round =>
    obtain ⟨k, A1, c1, o, cy, hk, rfl, rfl, rfl, hinv, hc0, hc1, hO, hB⟩ := hrel
    go_wp2_with fail
    refine (most_calls _ _ _).mono ?_
    rintro e w' ⟨rfl, rfl⟩
    rw [HKi.out]
    by_cases hlt : k < K
    · have l1 := Lib.hid (limb_calls wr A n c X k (hX.below hB) (by omega))
      have l2 := Lib.hid (limb_calls wr A' n' c' Y k (hY.below hB) (by omega))
      rw [Int.toNat_natCast] at l1 l2
      have hstep := Lib.hid (hinv.out.step hX.lim hY.lim)
      have hx := hX.lim.getD k
      have hy := hY.lim.getD k
      generalize X.getD k 0 = x at *
      generalize Y.getD k 0 = y at *
      go_wp2_with fail
      refine l1.out.mono ?_
      rintro e w' ⟨rfl, rfl⟩
      go_wp2_with fail
      refine l2.out.mono ?_
      rintro e w' ⟨rfl, rfl⟩
      clear l1 l2
      go_wp2_with (at_builtin; refine append_u32 _ rfl _ _ rfl w.heap.size A1 k c1 o _ 1 1 [(cy + x + y) % 4294967296] rfl rfl (hO.alloc _) (Row.lit1 _ (by omega) (by omega)).toOwn.sl ?_ ?_ ?_; omega; (have := hB.size; simp; omega); intro A2 c2 w4 hO4 hg4 hat4; have hB4 := below_append (hB.alloc hB.size _) (hO.alloc _) (Nat.le_refl _) hg4)
      go_roundw
      case rel => exact ⟨k + 1, A2, c2, _, _, by omega, rfl, rfl, by go_num, hstep, by omega, by omega, hO4, hB4⟩
      case measure => simp [intOf] <;> omega
    · obtain rfl : k = K := by omega
      have hv : val (o ++ [cy]) = val X + val Y := by
        have e := hinv.out.eq
        rw [List.take_of_length_le hKX, List.take_of_length_le hKY] at e
        rw [val_snoc, hinv.out.len]
        exact e
      have hv := Lib.hid hv
      go_wp2_with (at_builtin; refine append_u32 _ rfl _ _ rfl w.heap.size A1 k c1 o _ 1 1 [cy] rfl rfl (hO.alloc _) (Row.lit1 _ (by omega) (by omega)).toOwn.sl ?_ ?_ ?_; omega; (have := hB.size; simp; omega); intro A2 c2 w4 hO4 hg4 hat4; have hB4 := below_append (hB.alloc hB.size _) (hO.alloc _) (Nat.le_refl _) hg4)
      refine (rnorm_calls _ _ _ _ _ hO4.sl (by omega)).mono ?_
      rintro e w5 ⟨A3, c3, rfl, hO5, hB5⟩
      rw [hv.out] at hO5 ⊢
      go_wp2
      go_ret
      exact ⟨A3, c3, rfl, hO5.base hB4.size, below_step hB4 hB5⟩

set_option maxHeartbeats 1000000 in
theorem rless_calls (w : World) (A : Option Addr) (n c : Nat) (X : List Int) (A' : Option Addr) (n' c' : Nat) (Y : List Int) (hX : Sl w A n c X) (hY : Sl w A' n' c' Y) (hs1 : n ≤ 35184372088832) (hle : val Y ≤ val X) :
    Calls Try.prog 88 #[.slice A n c, .slice A' n' c'] w (RetNum (val X - val Y) w) := by
  have hXl := hX.len
  go_enter Try.func88, Try.ntmps88
  go_wp2
  go_loopw [5, 6, 7] (fun ov cv iv wr => ∃ (k : Nat) (A1 : Option Addr) (c1 : Nat) (o : List Int) (cy : Int), k ≤ n ∧ ov = .slice A1 k c1 ∧ cv = .int .u64 cy ∧ iv = .int .i64 k ∧ Hid (LessApp X Y o k cy) ∧ 0 ≤ cy ∧ cy ≤ 1 ∧ Own wr w.heap.size A1 k c1 o ∧ Below w.heap.size w wr) (fun _ _ iv _ => n - (intOf iv).toNat)
  case atStart => exact ⟨0, none, 0, [], 0, Nat.zero_le _, rfl, rfl, rfl, ⟨rfl, by omega, by omega, by simp [val]⟩, by omega, by omega, Own.nil _ _, Below.refl _ _⟩
  case round =>
    obtain ⟨k, A1, c1, o, cy, hk, rfl, rfl, rfl, hinv, hc0, hc1, hO, hB⟩ := hrel
    by_cases hlt : k < n
    · have l1 := Lib.hid (limb_calls wr A n c X k (hX.below hB) (by omega))
      have l2 := Lib.hid (limb_calls wr A' n' c' Y k (hY.below hB) (by omega))
      rw [Int.toNat_natCast] at l1 l2
      have hstep := hinv.out.step hX.lim hY.lim
      have hx := hX.lim.getD k
      have hy := hY.lim.getD k
      generalize X.getD k 0 = x at *
      generalize Y.getD k 0 = y at *
      by_cases hxy : x < y + cy
      · rw [if_pos hxy, show (x - cy - y) % 4294967296 = x + 4294967296 - (y + cy) by omega] at hstep
        replace hstep := Lib.hid hstep
        go_wp2_with fail
        refine l1.out.mono ?_
        rintro e w' ⟨rfl, rfl⟩
        go_wp2_with fail
        refine l2.out.mono ?_
        rintro e w' ⟨rfl, rfl⟩
        clear l1 l2
        go_wp2_with (at_builtin; refine append_u32 _ rfl _ _ rfl w.heap.size A1 k c1 o _ 1 1 [x + 4294967296 - (y + cy)] rfl rfl (hO.alloc _) (Row.lit1 _ (by omega) (by omega)).toOwn.sl ?_ ?_ ?_; omega; (have := hB.size; simp; omega); intro A2 c2 w4 hO4 hg4 hat4; have hB4 := below_append (hB.alloc hB.size _) (hO.alloc _) (Nat.le_refl _) hg4)
        go_roundw
        case rel => exact ⟨k + 1, A2, c2, _, _, by omega, rfl, rfl, by go_num, hstep, by omega, by omega, hO4, hB4⟩
        case measure => simp [intOf] <;> omega
      · rw [if_neg hxy, show (x - cy - y) % 4294967296 = x - (y + cy) by omega] at hstep
        replace hstep := Lib.hid hstep
        go_wp2_with fail
        refine l1.out.mono ?_
        rintro e w' ⟨rfl, rfl⟩
        go_wp2_with fail
        refine l2.out.mono ?_
        rintro e w' ⟨rfl, rfl⟩
        clear l1 l2
        go_wp2_with (at_builtin; refine append_u32 _ rfl _ _ rfl w.heap.size A1 k c1 o _ 1 1 [x - (y + cy)] rfl rfl (hO.alloc _) (Row.lit1 _ (by omega) (by omega)).toOwn.sl ?_ ?_ ?_; omega; (have := hB.size; simp; omega); intro A2 c2 w4 hO4 hg4 hat4; have hB4 := below_append (hB.alloc hB.size _) (hO.alloc _) (Nat.le_refl _) hg4)
        go_roundw
        case rel => exact ⟨k + 1, A2, c2, _, _, by omega, rfl, rfl, by go_num, hstep, by omega, by omega, hO4, hB4⟩
        case measure => simp [intOf] <;> omega
    · obtain rfl : k = n := by omega
      have hv := Lib.hid (hinv.out.last hXl hO.lim hle)
      go_wp2_with fail
      refine (rnorm_calls _ _ _ _ _ hO.sl (by omega)).mono ?_
      rintro e w5 ⟨A3, c3, rfl, hO5, hB5⟩
      rw [hv.out] at hO5 ⊢
      go_wp2
      go_ret
      exact ⟨A3, c3, rfl, hO5.base hB.size, below_step hB hB5⟩

end Go.Proofs.Ytdmahjbjlppeaaa

namespace Go.Proofs.Ytdmahjbjlppeaaa
open Go.RowKit

set_option maxHeartbeats 400000 in
theorem rsub_calls (w : World) (A : Option Addr) (n c : Nat) (X : List Int) (A' : Option Addr) (n' c' : Nat) (Y : List Int) (hX : Sl w A n c X) (hY : Sl w A' n' c' Y) (hs1 : n ≤ 35184372088832) (hle : val Y ≤ val X) :
    Calls Try.prog 95 #[.slice A n c, .slice A' n' c'] w (RetNumE (val X - val Y) 0 w) := by
  have hc0 : 0 ≤ cmpN (val X) (val Y) := by unfold cmpN; split <;> (try split) <;> omega
  generalize hg : cmpN (val X) (val Y) = r at hc0
  have Hg := Lib.hid hg
  clear hg
  go_enter Try.func95, Try.ntmps95
  go_wp2_with fail
  refine (rcmp_calls _ _ _ _ _ _ _ _ _ hX hY).mono ?_
  rintro e w1 ⟨rfl, rfl⟩
  rw [Hg.out]
  go_wp2_with fail
  refine (rless_calls _ _ _ _ _ _ _ _ _ hX hY hs1 hle).mono ?_
  rintro e w2 ⟨A1, c1, rfl, hO, hB2⟩
  go_wp2
  go_ret2
  exact ⟨_, _, rfl, hO, hB2⟩
end Go.Proofs.Ytdmahjbjlppeaaa

namespace Go.Proofs.Ytdmahjbjlppeaaa
open Go.RowKit

set_option maxHeartbeats 2000000 in
theorem rmul_calls (w : World) (A : Option Addr) (n c : Nat) (X : List Int) (A' : Option Addr) (n' c' : Nat) (Y : List Int) (hX : Sl w A n c X) (hY : Sl w A' n' c' Y) (hs : n + n' ≤ 35184372088832) :
    Calls Try.prog 85 #[.slice A n c, .slice A' n' c'] w (RetNum (val X * val Y) w) := by
  obtain rfl := hX.len
  obtain rfl := hY.len
  go_enter Try.func85, Try.ntmps85
  go_wp2_with (at_make; refine make_u32 _ rfl _ _ rfl (X.length + Y.length) _ _ _ _ rfl rfl ?_ ?_ ?_ ?_; (iterate 3 omega); intro w1 hR hB)
  go_loopw [6] (fun iv wr => ∃ (i : Nat) (o : List Int), i ≤ X.length ∧ iv = .int .i64 i ∧ Hid (val (o.take (i + Y.length)) = val (X.take i) * val Y) ∧ Row wr w.heap.size w.heap.size (X.length + Y.length) (X.length + Y.length) o ∧ Below w.heap.size w wr) (fun iv _ => X.length - (intOf iv).toNat)
  case atStart => exact ⟨0, _, Nat.zero_le _, rfl, by unfold Hid; rw [List.take_replicate, val_replicate]; simp [val], hR, hB⟩
  case round =>
    clear hR hB
    obtain ⟨i, o, hi, rfl, hinv, hR, hB⟩ := hrel
    by_cases hlt : i < X.length
    · go_wp2
      go_loopw [7, 8] (fun cv jv wq => ∃ (j : Nat) (o : List Int) (cy : Int), j ≤ Y.length ∧ cv = .int .u64 cy ∧ jv = .int .i64 j ∧ Hid (MulInv X Y o i j cy) ∧ 0 ≤ cy ∧ cy < 4294967296 ∧ Row wq w.heap.size w.heap.size (X.length + Y.length) (X.length + Y.length) o ∧ Below w.heap.size w wq) (fun _ jv _ => Y.length - (intOf jv).toNat)
      case atStart => exact ⟨0, _, 0, Nat.zero_le _, rfl, rfl, MulInv.start hinv.out, by omega, by omega, hR, hB⟩
      case round =>
        clear hR hB hinv o
        obtain ⟨j, o, cy, hj, rfl, rfl, hinv, hc0, hc1, hR, hB⟩ := hrel
        by_cases hjt : j < Y.length
        · obtain ⟨b, off, rfl, hcX⟩ := (hX.below hB).at_ hlt
          obtain ⟨b', off', rfl, hcY⟩ := (hY.below hB).at_ hjt
          have hcO := hR.cell (i + j) (by omega)
          have hfO := hR.frozen (i + j)
          have hsz := hR.lt
          have hx := hX.lim.getD i
          have hy := hY.lim.getD j
          have hq := hR.lim.getD (i + j)
          have hp := mul_lim hx hy
          have hstep := hinv.out.step hX.lim hY.lim hR.lim hjt (show i + Y.length ≤ o.length by rw [hR.len]; omega)
          rw [show cy + (X.getD i 0 * Y.getD j 0 + o.getD (i + j) 0) = cy + o.getD (i + j) 0 + X.getD i 0 * Y.getD j 0 by omega] at hstep
          have Hstep := Lib.hid hstep
          clear hstep
          generalize X.getD i 0 = x at *
          generalize Y.getD j 0 = y at *
          generalize o.getD (i + j) 0 = q at *
          go_wp2
          go_quiet (fail)
          go_wp2
          go_roundw
          case rel => exact ⟨j + 1, _, _, by omega, rfl, by go_num, Hstep, by omega, by omega, Row.stored (hR.drew _) (i + j) (by omega) (by omega), Below.setCell (below_drawn hB ⟨_, rfl⟩) (Nat.le_refl _) _⟩
          case measure => simp [intOf] <;> omega
        · obtain rfl : j = Y.length := by omega
          have hcO := hR.cell (i + Y.length) (by omega)
          have hfO := hR.frozen (i + Y.length)
          have hsz := hR.lt
          have hlast := hinv.out.last (by rw [hR.len]; omega)
          have Hlast := Lib.hid hlast
          clear hlast
          have hZ := Row.stored hR (i + Y.length) (x := cy) hc0 hc1
          have hB2 := hB.setCell (p := ⟨w.heap.size, i + Y.length, none⟩) (Nat.le_refl _) (.int .u32 cy)
          go_wp2
          go_roundw
          case rel => exact ⟨i + 1, _, by omega, by go_num, Hlast, hZ, hB2⟩
          case measure => simp [intOf] <;> omega
    · obtain rfl : i = X.length := by omega
      have hlast := hinv.out
      rw [List.take_length, List.take_of_length_le (by rw [hR.len]; omega)] at hlast
      have Hlast := Lib.hid hlast
      clear hlast
      go_wp2_with fail
      refine (rnorm_calls _ _ _ _ _ hR.toOwn.sl (by omega)).mono ?_
      rintro e w5 ⟨A3, c3, rfl, hO5, hB5⟩
      rw [Hlast.out] at hO5 ⊢
      go_wp2
      go_ret
      exact ⟨A3, c3, rfl, hO5.base hB.size, below_step hB hB5⟩

/-- A quotient and a rest of one limb, the rest as a word of 64 bits. -/
def RetNumR64 (N : Nat) (k : Int) (w : World) (e : Ending) (w' : World) : Prop := ∃ A c, e = .returned (.tuple #[.slice A (digs N).length c, .int .u64 k]) ∧ Own w' w.heap.size A (digs N).length c (digs N) ∧ Below w.heap.size w w'

set_option maxHeartbeats 1000000 in
theorem small_calls (w : World) (A : Option Addr) (n c : Nat) (X : List Int) (d : Int) (hX : Sl w A n c X) (hd : 0 < d) (hd1 : d < 4294967296) (hs : n ≤ 35184372088832) :
    Calls Try.prog 82 #[.slice A n c, .int .u64 d] w (RetNumR64 (val X / d.toNat) ((val X % d.toNat : Nat) : Int) w) := by
  obtain rfl := hX.len
  go_enter Try.func82, Try.ntmps82
  go_wp2_with (at_make; refine make_u32 _ rfl _ _ rfl X.length _ _ _ _ rfl rfl ?_ ?_ ?_ ?_; (iterate 3 omega); intro w1 hR hB)
  go_loopw [7, 8] (fun cv iv wr => ∃ (k : Nat) (o : List Int) (r : Int), k ≤ X.length ∧ cv = .int .u64 r ∧ iv = .int .i64 (k - 1) ∧ Hid (ShortInv X o d k r) ∧ Row wr w.heap.size w.heap.size X.length X.length o ∧ Below w.heap.size w wr) (fun _ iv _ => (intOf iv + 1).toNat)
  case atStart => exact ⟨X.length, _, 0, Nat.le_refl _, rfl, rfl, ShortInv.start hd (by simp), hR, hB⟩
  case round =>
    clear hR hB
    obtain ⟨k, o, r, hk, rfl, rfl, hinv, hR, hB⟩ := hrel
    by_cases h0 : k = 0
    · subst h0
      obtain ⟨h1, h2⟩ := hinv.out.last
      have H1 := Lib.hid h1
      have H2 := Lib.hid h2
      have hr0 := hinv.out.r0
      have hr1 := hinv.out.r1
      clear h1 h2
      go_wp2_with fail
      refine (rnorm_calls _ _ _ _ _ hR.toOwn.sl (by omega)).mono ?_
      rintro e w5 ⟨A3, c3, rfl, hO5, hB5⟩
      rw [H1.out] at hO5 ⊢
      go_wp2
      go_ret2
      exact ⟨A3, c3, by rw [H2.out]; rfl, hO5.base hB.size, below_step hB hB5⟩
    · obtain ⟨i, rfl⟩ : ∃ i, k = i + 1 := ⟨k - 1, by omega⟩
      clear h0
      obtain ⟨b, off, rfl, hcX⟩ := (hX.below hB).at_ (i := i) (by omega)
      have hcO := hR.cell i (by omega)
      have hfO := hR.frozen i
      have hsz := hR.lt
      have e0 : ((i + 1 : Nat) : Int) - 1 = i := by omega
      rw [e0]
      clear e0
      have hstep := Lib.hid (hinv.out.step hX.lim (show i < o.length by rw [hR.len]; omega) (by omega))
      have hx := hX.lim.getD i
      have hr0 := hinv.out.r0
      have hr1 := hinv.out.r1
      have hq := div_lt_B hr0 hr1 hx
      generalize X.getD i 0 = x at *
      go_wp2
      go_roundw
      case rel => exact ⟨i, _, _, by omega, rfl, rfl, hstep, Row.stored hR i hq.1 hq.2, hB.setCell (Nat.le_refl _) _⟩
      case measure => simp [intOf] <;> omega
end Go.Proofs.Ytdmahjbjlppeaaa

namespace Go.Proofs.Ytdmahjbjlppeaaa
open Go.RowKit

theorem two_digs (n : Nat) : List.replicate (n / 32) 0 ++ [((2 ^ (n % 32) : Nat) : Int)] = digs (2 ^ n) := by
  have hp : 0 < 2 ^ (n % 32) := Nat.pow_pos (by omega)
  have hlt : 2 ^ (n % 32) < 2 ^ 32 := Nat.pow_lt_pow_right (by omega) (by omega)
  have hl : Lim (List.replicate (n / 32) 0 ++ [((2 ^ (n % 32) : Nat) : Int)]) := (Lim.replicate _).append (Lim.one (by omega) (by omega))
  have hc : Canon (List.replicate (n / 32) 0 ++ [((2 ^ (n % 32) : Nat) : Int)]) := canon_snoc (by omega)
  have := canon_digs hl hc
  rw [val_append, val_replicate, val_one, List.length_replicate, Int.toNat_natCast, Nat.zero_add, Nat.mul_comm, pow_shift] at this
  exact this

set_option maxHeartbeats 1000000 in
theorem two_calls (w : World) (m : Nat) (hm : m < 1125899906842592) :
    Calls Try.prog 83 #[.int .i64 m] w (RetNum (2 ^ m) w) := by
  have htd := two_digs m
  obtain ⟨q, hq⟩ : ∃ q, q = m / 32 := ⟨_, rfl⟩
  have hlt : 2 ^ (m % 32) < 2 ^ 32 := Nat.pow_lt_pow_right (by omega) (by omega)
  have hpc : ((2 ^ (m % 32) : Nat) : Int) = 2 ^ (m % 32) % 4294967296 := by
    have : (2 : Int) ^ (m % 32) = ((2 ^ (m % 32) : Nat) : Int) := by rw [Int.natCast_pow]; rfl
    rw [this]
    exact (Int.emod_eq_of_lt (Int.natCast_nonneg _) (Int.ofNat_lt.2 hlt)).symm
  rw [← hq, hpc] at htd
  have hqi := Lib.hid (show (m : Int) / 32 = (q : Int) by omega)
  have hqb : q + 1 < 35184372088832 := by omega
  have hdl : (digs (2 ^ m)).length = q + 1 := by rw [← htd]; simp
  replace hdl := Lib.hid hdl
  replace htd := Lib.hid htd
  clear hq hlt hpc
  go_enter Try.func83, Try.ntmps83
  go_wp2
  go_loopw [3, 4] (fun ov iv wr => ∃ (k : Nat) (A1 : Option Addr) (c1 : Nat), k ≤ q ∧ iv = .int .i64 k ∧ ov = .slice A1 k c1 ∧ Own wr w.heap.size A1 k c1 (List.replicate k 0) ∧ Below w.heap.size w wr) (fun _ iv _ => q - (intOf iv).toNat)
  case atStart => exact ⟨0, none, 0, Nat.zero_le _, rfl, rfl, Own.nil _ _, Below.refl _ _⟩
  case round =>
    obtain ⟨k, A1, c1, hk, rfl, rfl, hO, hB⟩ := hrel
    by_cases hlt : k < q
    · have hlt' : (k : Int) < (m : Int) / 32 := by have := hqi.out; omega
      go_wp2_with (at_builtin; refine append_u32 _ rfl _ _ rfl w.heap.size A1 k c1 (List.replicate k 0) _ 1 1 [0] rfl rfl (hO.alloc _) (Row.lit1 _ (by omega) (by omega)).toOwn.sl ?_ ?_ ?_; omega; (have := hB.size; simp; omega); intro A2 c2 w4 hO4 hg4 hat4; have hB4 := below_append (hB.alloc hB.size _) (hO.alloc _) (Nat.le_refl _) hg4)
      rw [show List.replicate k (0 : Int) ++ [0] = List.replicate (k + 1) 0 by rw [List.replicate_succ']] at hO4
      go_roundw
      case rel => exact ⟨k + 1, A2, c2, by omega, by go_num, rfl, hO4, hB4⟩
      case measure => simp [intOf] <;> omega
    · obtain rfl : k = q := by omega
      have hlt' : ¬ (k : Int) < (m : Int) / 32 := by have := hqi.out; omega
      have hlt2 : (m : Int) / 32 ≤ (k : Int) := by omega
      go_wp2_with (at_builtin; refine append_u32 _ rfl _ _ rfl w.heap.size A1 k c1 (List.replicate k 0) _ 1 1 [2 ^ (m % 32) % 4294967296] rfl rfl (hO.alloc _) (Row.lit1 _ (by omega) (by omega)).toOwn.sl ?_ ?_ ?_; omega; (have := hB.size; simp; omega); intro A2 c2 w4 hO4 hg4 hat4; have hB4 := below_append (hB.alloc hB.size _) (hO.alloc _) (Nat.le_refl _) hg4)
      rw [htd.out] at hO4
      go_ret
      exact ⟨A2, c2, by rw [hdl.out]; rfl, by rw [hdl.out]; exact hO4, hB4⟩

set_option maxHeartbeats 2000000 in
theorem rshr_calls (w : World) (A : Option Addr) (n c : Nat) (X : List Int) (m : Nat) (hX : Sl w A n c X) (hs : n ≤ 35184372088832) (hm : m < 9223372036854775808) :
    Calls Try.prog 89 #[.slice A n c, .int .i64 m] w (RetNumE (val X / 2 ^ m) 0 w) := by
  obtain rfl := hX.len
  by_cases hb : blen (val X) ≤ m
  · have e1 := Lib.hid (show val X / 2 ^ m = 0 from Nat.div_eq_of_lt (blen_le_iff.1 hb))
    go_enter Try.func89, Try.ntmps89
    go_wp2_with fail
    refine (rbits_calls _ _ _ _ _ hX).mono ?_
    rintro e w1 ⟨rfl, rfl⟩
    go_wp2
    go_ret2
    refine ⟨none, 0, by rw [e1.out, digs_zero]; rfl, ?_, Below.refl _ _⟩
    rw [e1.out, digs_zero]
    exact Own.nil _ _
  · have hbl : blen (val X) ≤ 32 * X.length := blen_le_iff.2 (by rw [← pow_B]; exact val_lt hX.lim)
    have h1 : m / 32 ≤ X.length := by omega
    have hb2 : m < blen (val X) := by omega
    obtain ⟨K, hK⟩ : ∃ K, K = X.length - m / 32 := ⟨_, rfl⟩
    obtain ⟨q, hq⟩ : ∃ q, q = m / 32 := ⟨_, rfl⟩
    have HX := Lib.hid (show X.length = q + K by omega)
    have hqi := Lib.hid (show (m : Int) / 32 = (q : Int) by omega)
    have hqK : q + K ≤ 35184372088832 := by omega
    have hs31 : m % 32 ≤ 31 := by omega
    have HL := Lib.hid (show ∀ o, ShrInv X o q (m % 32) o.length → o.length = K → val o = val X / 2 ^ m by rw [hq, hK]; exact fun o a b => ShrInv.last a hX.lim b (by omega))
    clear hq hK hbl hb h1 hs
    go_enter Try.func89, Try.ntmps89
    go_wp2_with fail
    refine (rbits_calls _ _ _ _ _ hX).mono ?_
    rintro e w1 ⟨rfl, rfl⟩
    have hd0 : decide (blen (val X) ≤ m) = false := decide_eq_false (by omega)
    go_wp2
    clear hb2 hd0
    rw [hqi.out]
    go_loopw [6, 7] (fun ov iv wr => ∃ (k : Nat) (A1 : Option Addr) (c1 : Nat) (o : List Int), k ≤ K ∧ iv = .int .i64 ((q : Int) + k) ∧ ov = .slice A1 k c1 ∧ Hid (ShrInv X o q (m % 32) k) ∧ Own wr w.heap.size A1 k c1 o ∧ Below w.heap.size w wr) (fun _ iv _ => (q : Nat) + K - (intOf iv).toNat)
    case atStart => exact ⟨0, none, 0, [], Nat.zero_le _, by go_num, rfl, ShrInv.start _ _ _ _, Own.nil _ _, Below.refl _ _⟩
    case round =>
      obtain ⟨k, A1, c1, o, hk, rfl, rfl, hinv, hO, hB⟩ := hrel
      by_cases hlt : k < K
      · have hd : decide ((q : Int) + k < X.length) = true := by have := HX.out; simp; omega
        have l1 := Lib.hid (limb_calls wr A _ c X ((q : Int) + k) (hX.below hB) (by omega))
        have l2 := Lib.hid (limb_calls wr A _ c X ((q : Int) + k + 1) (hX.below hB) (by omega))
        rw [show ((q : Int) + k).toNat = k + q by omega] at l1
        rw [show ((q : Int) + k + 1).toNat = k + q + 1 by omega] at l2
        have hx := hX.lim.getD (k + q)
        have hy := hX.lim.getD (k + q + 1)
        have hi0 : ShrInv X (o ++ [0]) q (m % 32) k := ⟨by rw [← hinv.out.eq, List.take_append_of_le_length (by rw [hO.len]; exact Nat.le_refl _)]⟩
        have hstep := hi0.step hs31 hX.lim (by rw [List.length_append, hO.len]; exact Nat.lt_succ_self _) (by have := HX.out; omega)
        rw [shr_cast _ _ _ hx.1 hy.1, Int.mul_comm 4294967296] at hstep
        have hnn : 0 ≤ (X.getD (k + q) 0 + X.getD (k + q + 1) 0 * 4294967296) / 2 ^ (m % 32) := Int.ediv_nonneg (by omega) (Int.pow_nonneg (by omega))
        have hset : ∀ v : Int, (o ++ [0]).set k v = o ++ [v] := fun v => by
          rw [List.set_append_right _ _ (by rw [hO.len]; exact Nat.le_refl _), hO.len, Nat.sub_self]
          rfl
        rw [hset] at hstep
        replace hstep := Lib.hid hstep
        clear hset hi0
        generalize X.getD (k + q) 0 = x at *
        generalize X.getD (k + q + 1) 0 = y at *
        go_wp2_with fail
        refine l1.out.mono ?_
        rintro e w' ⟨rfl, rfl⟩
        go_wp2_with fail
        refine l2.out.mono ?_
        rintro e w' ⟨rfl, rfl⟩
        clear l1 l2
        go_wp2_with (at_builtin; refine append_u32 _ rfl _ _ rfl w.heap.size A1 k c1 o _ 1 1 [(x + y * 4294967296) / 2 ^ (m % 32) % 4294967296] rfl rfl (hO.alloc _) (Row.lit1 _ (Int.emod_nonneg _ (by omega)) (Int.emod_lt_of_pos _ (by omega))).toOwn.sl ?_ ?_ ?_; omega; (have := hB.size; simp; omega); intro A2 c2 w4 hO4 hg4 hat4; have hB4 := below_append (hB.alloc hB.size _) (hO.alloc _) (Nat.le_refl _) hg4)
        go_roundw
        case rel => exact ⟨k + 1, A2, c2, _, by omega, by go_num, rfl, hstep, hO4, hB4⟩
        case measure => simp [intOf] <;> omega
      · obtain rfl : k = K := by omega
        have hd : decide ((q : Int) + k < X.length) = false := by have := HX.out; simp; omega
        have hv := Lib.hid (HL.out o (by rw [hO.len]; exact hinv.out) hO.len)
        go_wp2_with fail
        refine (rnorm_calls _ _ _ _ _ hO.sl (by omega)).mono ?_
        rintro e w5 ⟨A3, c3, rfl, hO5, hB5⟩
        rw [hv.out] at hO5 ⊢
        go_wp2
        go_ret2
        exact ⟨A3, c3, rfl, hO5.base hB.size, below_step hB hB5⟩
end Go.Proofs.Ytdmahjbjlppeaaa

namespace Go.Proofs.Ytdmahjbjlppeaaa
open Go.RowKit

def RetDivR (q r : Nat) (w : World) (e : Ending) (w' : World) : Prop := ∃ A c A' c', e = .returned (.tuple #[.slice A (digs q).length c, .slice A' (digs r).length c', .int .i64 0]) ∧
  Own w' w.heap.size A (digs q).length c (digs q) ∧ Own w' w.heap.size A' (digs r).length c' (digs r) ∧ Below w.heap.size w w'

set_option maxHeartbeats 1000000 in
theorem rdiv_zero (w : World) (A : Option Addr) (n c : Nat) (A' : Option Addr) (n' c' : Nat) (lb : List Int) (hb : Sl w A' n' c' lb) (h0 : val lb = 0) (hs' : n' ≤ 35184372088832) :
    Calls Try.prog 50 #[.slice A n c, .slice A' n' c'] w fun e w' => e = .returned (.tuple #[.slice none 0 0, .slice none 0 0, .int .i64 11]) ∧ Below w.heap.size w w' := by
  have e0 := Lib.hid (show (digs (val lb)).length = 0 by rw [h0, digs_zero]; rfl)
  go_enter Try.func50, Try.ntmps50
  go_wp2_with fail
  refine (rnorm_calls _ _ _ _ _ hb hs').mono ?_
  rintro e w1 ⟨A1, c1, rfl, hO1, hB1⟩
  rw [e0.out]
  go_wp2
  go_ret3
  exact ⟨rfl, hB1⟩

set_option maxHeartbeats 1000000 in
theorem rdiv_one (w : World) (A : Option Addr) (n c : Nat) (la : List Int) (A' : Option Addr) (n' c' : Nat) (lb : List Int) (ha : Sl w A n c la) (hb : Sl w A' n' c' lb) (h1 : (digs (val lb)).length = 1) (hs : n ≤ 35184372088832) (hs' : n' ≤ 35184372088832) :
    Calls Try.prog 50 #[.slice A n c, .slice A' n' c'] w (RetDivR (val la / val lb) (val la % val lb) w) := by
  obtain ⟨hp, hlt, htop⟩ := len_one h1
  have H1 := Lib.hid h1
  clear h1
  go_enter Try.func50, Try.ntmps50
  go_wp2_with fail
  refine (rnorm_calls _ _ _ _ _ hb hs').mono ?_
  rintro e w1 ⟨A1, c1, rfl, hO1, hB1⟩
  rw [H1.out] at hO1 ⊢
  obtain ⟨b, off, rfl, hcb⟩ := hO1.sl.at_ (i := 0) (by omega)
  rw [htop, Nat.add_zero] at hcb
  clear htop
  go_wp2_with fail
  refine (small_calls _ _ _ _ _ (val lb : Int) (ha.below hB1) (by omega) (by omega) hs).mono ?_
  rintro e w2 ⟨A2, c2, rfl, hO, hB2⟩
  rw [Int.toNat_natCast] at hO ⊢
  have hm0 : 0 ≤ (val la : Int) % (val lb : Int) := Int.emod_nonneg _ (by omega)
  have hm1 : (val la : Int) % (val lb : Int) < 4294967296 := by have := Int.emod_lt_of_pos (val la : Int) (show 0 < (val lb : Int) by omega); omega
  go_wp2_with fail
  have hR := Row.lit1 w2 (x := (val la : Int) % (val lb : Int)) hm0 hm1
  refine (rnorm_calls _ _ _ _ _ hR.toOwn.sl (by omega)).mono ?_
  rintro e w3 ⟨A3, c3, rfl, hO3, hB3⟩
  have hv : val [(val la : Int) % (val lb : Int)] = val la % val lb := by rw [val_one, ← Int.natCast_emod, Int.toNat_natCast]
  rw [hv] at hO3 ⊢
  go_wp2
  go_ret3
  have hS := (below_step hB1 hB2)
  have hS2 := hS.alloc hS.size (.cells #[.int .u32 ((val la : Int) % (val lb : Int))] 68)
  exact ⟨A2, c2, A3, c3, rfl, ((hO.base hB1.size).alloc _).below hB3, hO3.base hS2.size, below_step hS2 hB3⟩

set_option maxHeartbeats 4000000 in
set_option maxRecDepth 100000 in
theorem rdiv_long (w : World) (A : Option Addr) (n0 c : Nat) (la : List Int) (A' : Option Addr) (n' c' : Nat) (lb : List Int) (ha : Sl w A n0 c la) (hb : Sl w A' n' c' lb) (n : Nat) (h1 : (digs (val lb)).length = n + 1) (hn : 0 < n) (hs : n0 ≤ 35184372088829) (hs' : n' ≤ 35184372088829) :
    Calls Try.prog 50 #[.slice A n0 c, .slice A' n' c'] w (RetDivR (val la / val lb) (val la % val lb) w) := by
  have htop := top_ne_zero h1
  have hty := (digs_lim (val lb)).getD n
  have hb1 := blen_top (digs_lim (val lb)) h1 htop
  rw [val_digs] at hb1
  obtain ⟨s, hs1⟩ : ∃ s, s + blen ((digs (val lb)).getD n 0).toNat = 32 := ⟨32 - blen ((digs (val lb)).getD n 0).toNat, by have := blen_le_iff.2 (show ((digs (val lb)).getD n 0).toNat < 2 ^ 32 by omega); omega⟩
  have hs31 : s ≤ 31 := by have := blen_pos (show 0 < ((digs (val lb)).getD n 0).toNat by omega); omega
  obtain ⟨hvl, hvg⟩ := norm_len h1 hs1
  have hse := Lib.hid (show 32 * ((n : Int) + 1) - (blen (val lb) : Int) = (s : Int) by omega)
  have hn1 : n + 1 ≤ 35184372088829 := by have := digs_val_len hb.lim; have := hb.len; omega
  have hbl : blen (val lb) ≤ 32 * (n + 1) := by omega
  have H1 := Lib.hid h1
  have Hvl := Lib.hid hvl
  have hup1 : (digs (2 ^ s)).length ≤ 1 := digs_len_le (by rw [Nat.pow_one]; exact Nat.lt_of_lt_of_le (Nat.pow_lt_pow_right (by omega) (show s < 32 by omega)) (by omega))
  have hvp : 0 < val lb * 2 ^ s := by
    have := Nat.pow_pos (n := n) (show 0 < 4294967296 by omega)
    omega
  clear htop hty hb1 hs1 hvg h1 hvl
  have hne : ((n : Int) == 0) = false := beq_eq_false_iff_ne.2 (by omega)
  have hne1 : ((n : Int) + 1 == 1) = false := beq_eq_false_iff_ne.2 (by omega)
  have hne0 : ((n : Int) + 1 == 0) = false := beq_eq_false_iff_ne.2 (by omega)
  go_enter Try.func50, Try.ntmps50
  go_wp2_with fail
  refine (rnorm_calls _ _ _ _ _ hb (by omega)).mono ?_
  rintro e w1 ⟨A1, c1, rfl, hO1, hB1⟩
  rw [H1.out] at hO1 ⊢
  have hbits := rbits_calls w1 A1 (n + 1) c1 _ hO1.sl
  rw [val_digs] at hbits
  go_wp2_with fail
  refine hbits.mono ?_
  rintro e w2 ⟨rfl, rfl⟩
  go_wp2_with fail
  rw [hse.out]
  refine (two_calls w1 s (by omega)).mono ?_
  rintro e w2 ⟨A2, c2, rfl, hO2, hB2⟩
  have hBs2 := below_step hB1 hB2
  go_wp2_with fail
  refine (rmul_calls _ _ _ _ _ _ _ _ _ (ha.below hBs2) hO2.sl (by omega)).mono ?_
  rintro e w3 ⟨A3, c3, rfl, hO3, hB3⟩
  rw [val_digs] at hO3 ⊢
  have hBs3 := below_step hBs2 hB3
  go_wp2_with fail
  refine (rmul_calls _ _ _ _ _ _ _ _ _ ((hO1.below hB2).below hB3).sl (hO2.below hB3).sl (by omega)).mono ?_
  rintro e w4 ⟨A4, c4, rfl, hO4, hB4⟩
  rw [val_digs, val_digs, Hvl.out] at hO4 ⊢
  have hBs4 := below_step hBs3 hB4
  have hU := (hO3.below hB4).sl
  have hD := (((hO1.below hB2).below hB3).below hB4).sl
  have hV := hO4.sl
  have hus := hU.small
  have ha0 := ha.lim
  have hal := ha.len
  clear hO1 hO2 hO3 hO4 hB1 hB2 hB3 hB4 hBs2 hBs3 ha hb hbits
  go_wp2_with (at_make; refine make_u32 _ rfl _ _ rfl ((digs (val la * 2 ^ s)).length) _ _ _ _ rfl rfl ?_ ?_ ?_ ?_; (iterate 3 omega); intro w5 hRq hBq)
  have hlu : (digs (val la * 2 ^ s)).length ≤ n0 + 1 := digs_len_le (by
    rw [Nat.pow_succ]
    have h1 := val_lt ha0
    rw [hal] at h1
    have h2 : 2 ^ s ≤ 4294967296 := Nat.le_trans (Nat.pow_le_pow_right (by omega) (show s ≤ 32 by omega)) (by omega)
    exact Nat.mul_lt_mul_of_lt_of_le h1 h2 (by omega))
  replace hlu : (digs (val la * 2 ^ s)).length ≤ 35184372088830 := by omega
  have hinv0 := Lib.hid (RDivInv.start (U := digs (val la * 2 ^ s)) (V := val (digs (val lb * 2 ^ s))) (by rw [val_digs]; exact hvp) _ rfl)
  have hVtop : 0 < (digs (val lb * 2 ^ s)).getD n 0 := by have := top_ne_zero Hvl.out; have := (digs_lim (val lb * 2 ^ s)).getD n; omega
  have hfin := Lib.hid (div_shift (val la) (val lb) s)
  have hUv := Lib.hid (val_digs (val la * 2 ^ s))
  have hVv := Lib.hid (val_digs (val lb * 2 ^ s))
  generalize digs (val la * 2 ^ s) = U at *
  generalize digs (val lb * 2 ^ s) = V at *
  clear hvp Hvl
  go_loopw [14, 15] (fun rv iv wr => ∃ (k R : Nat) (Q : List Int) (Ar : Option Addr) (cr : Nat), k ≤ U.length ∧ rv = .slice Ar (digs R).length cr ∧ iv = .int .i64 (k - 1) ∧ Hid (RDivInv U (val V) R Q k) ∧ Own wr (w4.heap.size + 1) Ar (digs R).length cr (digs R) ∧ Row wr w4.heap.size w4.heap.size U.length U.length Q ∧ Below w4.heap.size w4 wr) (fun _ iv _ => (intOf iv + 1).toNat)
  case atStart => exact ⟨U.length, 0, _, none, 0, Nat.le_refl _, by rw [digs_zero]; rfl, by go_num, hinv0, by rw [digs_zero]; exact Own.nil _ _, hRq, hBq⟩
  case round =>
    clear hRq hBq hinv0
    obtain ⟨k, R, Q, Ar, cr, hk, rfl, rfl, hinv, hO, hRq, hB⟩ := hrel
    by_cases hk0 : k = 0
    · subst hk0
      obtain ⟨hq, hr⟩ := hinv.out.last
      rw [hUv.out, hVv.out, hfin.out.1] at hq
      rw [hUv.out, hVv.out] at hr
      have hr2 := hfin.out.2
      rw [← hr] at hr2
      replace hq := Lib.hid hq
      replace hr2 := Lib.hid hr2
      have hDr := hD.below hB
      have hbits := rbits_calls wr A1 (n + 1) c1 _ hDr
      rw [val_digs] at hbits
      have hshr := rshr_calls wr Ar _ cr _ s hO.sl (Nat.le_trans (digs_len_mono (Nat.le_of_lt hinv.out.lt)) (by have := digs_val_len hV.lim; have := hV.len; omega)) (by omega)
      rw [val_digs, hr2.out] at hshr
      replace hbits := Lib.hid hbits
      replace hshr := Lib.hid hshr
      clear hr
      go_wp2_with fail
      refine hbits.out.mono ?_
      rintro e w' ⟨rfl, rfl⟩
      go_wp2_with fail
      rw [hse.out]
      refine hshr.out.mono ?_
      rintro e w8 ⟨A8, c8, rfl, hO8, hB8⟩
      go_wp2_with fail
      refine (rnorm_calls _ _ _ _ _ (hRq.below hB8).toOwn.sl (by omega)).mono ?_
      rintro e w9 ⟨A9, c9, rfl, hO9, hB9⟩
      rw [hq.out] at hO9 ⊢
      go_wp2
      go_ret3
      have hBa := below_step hBs4 hB
      have hBb := below_step hBa hB8
      exact ⟨_, _, _, _, rfl, hO9.base hBb.size, (hO8.base hBa.size).below hB9, below_step hBb hB9⟩
    · obtain ⟨i, rfl⟩ : ∃ i, k = i + 1 := ⟨k - 1, by omega⟩
      clear hk0
      have ei : ((i + 1 : Nat) : Int) - 1 = i := by omega
      rw [ei]
      clear ei
      obtain ⟨b, off, rfl, hcU⟩ := (hU.below hB).at_ (i := i) (by omega)
      have hx := hU.lim.getD i
      have hRlen : (digs R).length ≤ 35184372088829 := Nat.le_trans (digs_len_mono (Nat.le_of_lt hinv.out.lt)) (by have := digs_val_len hV.lim; have := hV.len; omega)
      obtain ⟨R', hRe⟩ : ∃ R', (U.getD i 0).toNat + 4294967296 * R = R' := ⟨_, rfl⟩
      have hval := Lib.hid (show val ([U.getD i 0] ++ digs R) = R' by rw [← hRe]; show (U.getD i 0).toNat + 4294967296 * val (digs R) = _; rw [val_digs])
      have hbound := hinv.out.bound hU.lim
      rw [hRe] at hbound
      have hskip := hinv.out.skip (by omega) (by rw [hRq.len]; omega)
      rw [hRe] at hskip
      replace hskip := Lib.hid hskip
      replace hRe := Lib.hid hRe
      have hgb := hRq.lt
      generalize hxe : U.getD i 0 = x at *
      have hxe' := Lib.hid hxe
      clear hxe
      have hL := Row.lit1 wr hx.1 hx.2
      go_wp2_with (at_builtin; refine append_u32 _ rfl _ _ rfl wr.heap.size (some ⟨wr.heap.size, 0, none⟩) 1 1 [x] Ar (digs R).length cr (digs R) rfl rfl hL.toOwn (hO.sl.alloc _) ?_ ?_ ?_; omega; simp; intro A6 c6 w6 hO6 hg6 hat6; have hB6 := below_append (hB.alloc hB.size _) hL.toOwn hB.size hg6; have hRq6 := (hRq.alloc (.cells #[.int .u32 x] 68)).keptAppend hgb.2 hL.toOwn hg6)
      refine (rnorm_calls _ _ _ _ _ hO6.sl (by omega)).mono ?_
      rintro e w7 ⟨A7, c7, rfl, hO7, hB7⟩
      rw [hval.out] at hO7 ⊢
      have hB47 := below_step hB6 hB7
      have hRq7 := hRq6.below hB7
      replace hO7 := hO7.base (show w4.heap.size + 1 ≤ w6.heap.size by have := hRq6.lt.2; omega)
      have hV7 := hV.below hB47
      have hcmp := rcmp_calls w7 A7 _ c7 _ A4 _ c4 _ hO7.sl hV7
      rw [val_digs] at hcmp
      by_cases hlt : R' < val V
      · rw [cmpN_lt hlt] at hcmp
        replace hcmp := Lib.hid hcmp
        have hnew := Lib.hid (hskip.out hlt)
        go_wp2_with fail
        refine hcmp.out.mono ?_
        rintro e w' ⟨rfl, rfl⟩
        clear hskip hlt hbound
        go_wp2
        go_roundw
        case rel => exact ⟨i, R', Q, _, _, by omega, rfl, rfl, hnew, hO7, hRq7, hB47⟩
        case measure => simp [intOf] <;> omega
      · have hc0 : 0 ≤ cmpN R' (val V) := by unfold cmpN; split <;> (try split) <;> omega
        generalize cmpN R' (val V) = cv at *
        replace hcmp := Lib.hid hcmp
        obtain ⟨hg0, hg1, hup⟩ := rguess hV.lim hV.len hVtop hbound
        have l1 := Lib.hid (limb_calls w7 A7 _ c7 _ ((n : Int) + 1) hO7.sl (by omega))
        have l2 := Lib.hid (limb_calls w7 A7 _ c7 _ (n : Int) hO7.sl (by omega))
        have l3 := Lib.hid (limb_calls w7 A4 _ c4 _ (n : Int) hV7 (by omega))
        rw [show ((n : Int) + 1).toNat = n + 1 by omega] at l1
        rw [Int.toNat_natCast] at l2 l3
        have hy1 := (digs_lim R').getD (n + 1)
        have hy0 := (digs_lim R').getD n
        have hv := hV.lim.getD n
        have hvt := hVtop
        have hRl : (digs R').length ≤ 35184372088832 := Nat.le_trans (digs_len_le (k := n + 2) (by
          have h1 := val_lt hV.lim
          rw [hV.len] at h1
          rw [show n + 2 = n + 1 + 1 by omega, Nat.pow_succ]
          omega)) (by omega)
        generalize (digs R').getD (n + 1) 0 = y1 at *
        generalize (digs R').getD n 0 = y0 at *
        generalize V.getD n 0 = v1 at *
        have hdn : 0 ≤ (y1 * 4294967296 + y0) / v1 := Int.ediv_nonneg (by omega) (by omega)
        clear hskip hlt
        go_wp2_with fail
        refine hcmp.out.mono ?_
        rintro e w' ⟨rfl, rfl⟩
        go_wp2_with fail
        refine l1.out.mono ?_
        rintro e w' ⟨rfl, rfl⟩
        go_wp2_with fail
        refine l2.out.mono ?_
        rintro e w' ⟨rfl, rfl⟩
        go_wp2_with fail
        refine l3.out.mono ?_
        rintro e w' ⟨rfl, rfl⟩
        clear l1 l2 l3
        by_cases hbig : 4294967296 ≤ (y1 * 4294967296 + y0) / v1
        · rw [Int.min_eq_right (by omega)] at hup
          replace hup := Lib.hid hup
          go_wp2_with fail
          have hLg := Row.lit1 w7 (x := 4294967295) (by omega) (by omega)
          refine (rmul_calls _ _ _ _ _ _ _ _ _ (hV7.alloc _) hLg.toOwn.sl (by omega)).mono ?_
          rintro e w8 ⟨A8, c8, rfl, hO8, hB8⟩
          rw [val_one] at hO8 ⊢
          have hB48 := below_step (hB47.alloc hB47.size (.cells #[.int .u32 (4294967295)] 68)) hB8
          have hsz8 : w4.heap.size + 1 ≤ (w7.alloc (.cells #[.int .u32 (4294967295)] 68)).heap.size := by have := hRq7.lt.2; simp; omega
          have hRq8 := (hRq7.alloc (.cells #[.int .u32 (4294967295)] 68)).below hB8
          have hR8 := (hO7.alloc (.cells #[.int .u32 (4294967295)] 68)).below hB8
          go_wp2
          go_loopw [16, 17] (fun gv pv wz => ∃ (g : Int) (Ap : Option Addr) (cp : Nat), 0 ≤ g ∧ g < 4294967296 ∧ gv = .int .u64 g ∧ pv = .slice Ap (digs (val V * g.toNat)).length cp ∧ Hid (R' < (g.toNat + 1) * val V) ∧ Own wz (w4.heap.size + 1) Ap (digs (val V * g.toNat)).length cp (digs (val V * g.toNat)) ∧ Row wz w4.heap.size w4.heap.size U.length U.length Q ∧ Own wz (w4.heap.size + 1) A7 (digs R').length c7 (digs R') ∧ Below w4.heap.size w4 wz) (fun gv _ _ => (intOf gv).toNat)
          case atStart => exact ⟨4294967295, _, _, by omega, by omega, rfl, rfl, hup, hO8.base hsz8, hRq8, hR8, hB48⟩
          case round =>
            clear hRq8 hR8 hB48 hO8
            obtain ⟨g, Ap, cp, hg0, hg1, rfl, rfl, hgu, hOp, hRqz, hRz, hBz⟩ := hrel
            have hVz := hV.below hBz
            have hcm := rcmp_calls wr Ap _ cp _ A7 _ c7 _ hOp.sl hRz.sl
            rw [val_digs, val_digs] at hcm
            have hpl : (digs (val V * g.toNat)).length ≤ 35184372088832 := Nat.le_trans (digs_len_le (k := n + 2) (by
              have h1 := val_lt hV.lim
              rw [hV.len] at h1
              have h2 : val V * g.toNat ≤ val V * 4294967296 := Nat.mul_le_mul_left _ (by omega)
              rw [show n + 2 = n + 1 + 1 by omega, Nat.pow_succ]
              omega)) (by omega)
            by_cases hgt : R' < val V * g.toNat
            · rw [cmpN_gt hgt] at hcm
              have hgp : 0 < g := by
                rcases Int.lt_or_le 0 g with h | h
                · exact h
                · rw [show g = 0 by omega] at hgt; simp at hgt
              have hsub : val V * g.toNat - val V = val V * (g.toNat - 1) := by
                obtain ⟨G, hG⟩ : ∃ G, g.toNat = G + 1 := ⟨g.toNat - 1, by omega⟩
                rw [hG, Nat.add_sub_cancel, Nat.mul_add, Nat.mul_one, Nat.add_sub_cancel]
              have hgn := Lib.hid (show R' < (g.toNat - 1 + 1) * val V by rw [show g.toNat - 1 + 1 = g.toNat by omega, Nat.mul_comm]; exact hgt)
              have Hgm := Lib.hid (show (g - 1).toNat = g.toNat - 1 by omega)
              have hle := rless_calls wr Ap _ cp _ A4 _ c4 _ hOp.sl hVz hpl (by rw [val_digs]; have : val V * 1 ≤ val V * g.toNat := Nat.mul_le_mul_left _ (by omega); omega)
              rw [val_digs, hsub] at hle
              replace hle := Lib.hid hle
              replace hcm := Lib.hid hcm
              clear hsub hgt hgu
              go_wp2_with fail
              refine hcm.out.mono ?_
              rintro e w' ⟨rfl, rfl⟩
              go_wp2_with fail
              refine hle.out.mono ?_
              rintro e w9 ⟨A9, c9, rfl, hO9, hB9⟩
              go_wp2
              go_roundw
              case rel => exact ⟨g - 1, _, _, by omega, by omega, rfl, by rw [Hgm.out], by rw [Hgm.out]; exact hgn, by rw [Hgm.out]; exact hO9.base (by have := hRqz.lt.2; omega), hRqz.below hB9, hRz.below hB9, below_step hBz hB9⟩
              case measure => simp [intOf] <;> omega
            · have hc0 : cmpN (val V * g.toNat) R' ≤ 0 := by unfold cmpN; split <;> (try split) <;> omega
              generalize cmpN (val V * g.toNat) R' = cv at *
              replace hcm := Lib.hid hcm
              obtain ⟨hq, hr⟩ := div_of_bounds (R := R') (V := val V) (g := g.toNat) (by rw [Nat.mul_comm]; omega) hgu.out
              have hgq : g = ((R' / val V : Nat) : Int) := by omega
              have hcQ := hRqz.cell i (by omega)
              have hfQ := hRqz.frozen i
              have hsz := hRqz.lt
              have hZ := Row.stored hRqz i hg0 hg1
              have hBZ := hBz.setCell (p := ⟨w4.heap.size, i, none⟩) (Nat.le_refl _) (.int .u32 g)
              have hle2 := rless_calls (wr.setCell ⟨w4.heap.size, i, none⟩ (.int .u32 g)) A7 _ c7 _ Ap _ cp _ (hRz.setLow (Nat.lt_succ_self _) _ _).sl (hOp.setLow (Nat.lt_succ_self _) _ _).sl hRl (by rw [val_digs, val_digs]; omega)
              rw [Nat.mul_comm] at hr
              rw [val_digs, val_digs, hr] at hle2
              replace hle2 := Lib.hid hle2
              have hnew := Lib.hid (hinv.out.take hU.lim (by omega) (by rw [hRqz.len]; omega))
              rw [hxe'.out, hRe.out] at hnew
              rw [← hgq] at hnew
              clear hq hr hgq hgt hgu
              go_wp2_with fail
              refine hcm.out.mono ?_
              rintro e w' ⟨rfl, rfl⟩
              go_wp2_with fail
              refine hle2.out.mono ?_
              rintro e w9 ⟨A9, c9, rfl, hO9, hB9⟩
              go_wp2
              go_roundw
              case rel => exact ⟨i, _, _, _, _, by omega, rfl, rfl, hnew, hO9.base (by have := hZ.lt.2; omega), hZ.below hB9, below_step hBZ hB9⟩
              case measure => simp [intOf] <;> omega
        · rw [Int.min_eq_left (by omega)] at hup
          replace hup := Lib.hid hup
          go_wp2_with fail
          have hLg := Row.lit1 w7 (x := (y1 * 4294967296 + y0) / v1) (by omega) (by omega)
          refine (rmul_calls _ _ _ _ _ _ _ _ _ (hV7.alloc _) hLg.toOwn.sl (by omega)).mono ?_
          rintro e w8 ⟨A8, c8, rfl, hO8, hB8⟩
          rw [val_one] at hO8 ⊢
          have hB48 := below_step (hB47.alloc hB47.size (.cells #[.int .u32 ((y1 * 4294967296 + y0) / v1)] 68)) hB8
          have hsz8 : w4.heap.size + 1 ≤ (w7.alloc (.cells #[.int .u32 ((y1 * 4294967296 + y0) / v1)] 68)).heap.size := by have := hRq7.lt.2; simp; omega
          have hRq8 := (hRq7.alloc (.cells #[.int .u32 ((y1 * 4294967296 + y0) / v1)] 68)).below hB8
          have hR8 := (hO7.alloc (.cells #[.int .u32 ((y1 * 4294967296 + y0) / v1)] 68)).below hB8
          go_wp2
          go_loopw [16, 17] (fun gv pv wz => ∃ (g : Int) (Ap : Option Addr) (cp : Nat), 0 ≤ g ∧ g < 4294967296 ∧ gv = .int .u64 g ∧ pv = .slice Ap (digs (val V * g.toNat)).length cp ∧ Hid (R' < (g.toNat + 1) * val V) ∧ Own wz (w4.heap.size + 1) Ap (digs (val V * g.toNat)).length cp (digs (val V * g.toNat)) ∧ Row wz w4.heap.size w4.heap.size U.length U.length Q ∧ Own wz (w4.heap.size + 1) A7 (digs R').length c7 (digs R') ∧ Below w4.heap.size w4 wz) (fun gv _ _ => (intOf gv).toNat)
          case atStart => exact ⟨(y1 * 4294967296 + y0) / v1, _, _, by omega, by omega, rfl, rfl, hup, hO8.base hsz8, hRq8, hR8, hB48⟩
          case round =>
            clear hRq8 hR8 hB48 hO8
            obtain ⟨g, Ap, cp, hg0, hg1, rfl, rfl, hgu, hOp, hRqz, hRz, hBz⟩ := hrel
            have hVz := hV.below hBz
            have hcm := rcmp_calls wr Ap _ cp _ A7 _ c7 _ hOp.sl hRz.sl
            rw [val_digs, val_digs] at hcm
            have hpl : (digs (val V * g.toNat)).length ≤ 35184372088832 := Nat.le_trans (digs_len_le (k := n + 2) (by
              have h1 := val_lt hV.lim
              rw [hV.len] at h1
              have h2 : val V * g.toNat ≤ val V * 4294967296 := Nat.mul_le_mul_left _ (by omega)
              rw [show n + 2 = n + 1 + 1 by omega, Nat.pow_succ]
              omega)) (by omega)
            by_cases hgt : R' < val V * g.toNat
            · rw [cmpN_gt hgt] at hcm
              have hgp : 0 < g := by
                rcases Int.lt_or_le 0 g with h | h
                · exact h
                · rw [show g = 0 by omega] at hgt; simp at hgt
              have hsub : val V * g.toNat - val V = val V * (g.toNat - 1) := by
                obtain ⟨G, hG⟩ : ∃ G, g.toNat = G + 1 := ⟨g.toNat - 1, by omega⟩
                rw [hG, Nat.add_sub_cancel, Nat.mul_add, Nat.mul_one, Nat.add_sub_cancel]
              have hgn := Lib.hid (show R' < (g.toNat - 1 + 1) * val V by rw [show g.toNat - 1 + 1 = g.toNat by omega, Nat.mul_comm]; exact hgt)
              have Hgm := Lib.hid (show (g - 1).toNat = g.toNat - 1 by omega)
              have hle := rless_calls wr Ap _ cp _ A4 _ c4 _ hOp.sl hVz hpl (by rw [val_digs]; have : val V * 1 ≤ val V * g.toNat := Nat.mul_le_mul_left _ (by omega); omega)
              rw [val_digs, hsub] at hle
              replace hle := Lib.hid hle
              replace hcm := Lib.hid hcm
              clear hsub hgt hgu
              go_wp2_with fail
              refine hcm.out.mono ?_
              rintro e w' ⟨rfl, rfl⟩
              go_wp2_with fail
              refine hle.out.mono ?_
              rintro e w9 ⟨A9, c9, rfl, hO9, hB9⟩
              go_wp2
              go_roundw
              case rel => exact ⟨g - 1, _, _, by omega, by omega, rfl, by rw [Hgm.out], by rw [Hgm.out]; exact hgn, by rw [Hgm.out]; exact hO9.base (by have := hRqz.lt.2; omega), hRqz.below hB9, hRz.below hB9, below_step hBz hB9⟩
              case measure => simp [intOf] <;> omega
            · have hc0 : cmpN (val V * g.toNat) R' ≤ 0 := by unfold cmpN; split <;> (try split) <;> omega
              generalize cmpN (val V * g.toNat) R' = cv at *
              replace hcm := Lib.hid hcm
              obtain ⟨hq, hr⟩ := div_of_bounds (R := R') (V := val V) (g := g.toNat) (by rw [Nat.mul_comm]; omega) hgu.out
              have hgq : g = ((R' / val V : Nat) : Int) := by omega
              have hcQ := hRqz.cell i (by omega)
              have hfQ := hRqz.frozen i
              have hsz := hRqz.lt
              have hZ := Row.stored hRqz i hg0 hg1
              have hBZ := hBz.setCell (p := ⟨w4.heap.size, i, none⟩) (Nat.le_refl _) (.int .u32 g)
              have hle2 := rless_calls (wr.setCell ⟨w4.heap.size, i, none⟩ (.int .u32 g)) A7 _ c7 _ Ap _ cp _ (hRz.setLow (Nat.lt_succ_self _) _ _).sl (hOp.setLow (Nat.lt_succ_self _) _ _).sl hRl (by rw [val_digs, val_digs]; omega)
              rw [Nat.mul_comm] at hr
              rw [val_digs, val_digs, hr] at hle2
              replace hle2 := Lib.hid hle2
              have hnew := Lib.hid (hinv.out.take hU.lim (by omega) (by rw [hRqz.len]; omega))
              rw [hxe'.out, hRe.out] at hnew
              rw [← hgq] at hnew
              clear hq hr hgq hgt hgu
              go_wp2_with fail
              refine hcm.out.mono ?_
              rintro e w' ⟨rfl, rfl⟩
              go_wp2_with fail
              refine hle2.out.mono ?_
              rintro e w9 ⟨A9, c9, rfl, hO9, hB9⟩
              go_wp2
              go_roundw
              case rel => exact ⟨i, _, _, _, _, by omega, rfl, rfl, hnew, hO9.base (by have := hZ.lt.2; omega), hZ.below hB9, below_step hBZ hB9⟩
              case measure => simp [intOf] <;> omega
end Go.Proofs.Ytdmahjbjlppeaaa

namespace Go.Proofs.Ytdmahjbjlppeaaa
open Go.RowKit

theorem rdiv_calls (w : World) (A : Option Addr) (n c : Nat) (la : List Int) (A' : Option Addr) (n' c' : Nat) (lb : List Int) (ha : Sl w A n c la) (hb : Sl w A' n' c' lb) (h0 : 0 < val lb) (hs : n ≤ 35184372088829) (hs' : n' ≤ 35184372088829) :
    Calls Try.prog 50 #[.slice A n c, .slice A' n' c'] w (RetDivR (val la / val lb) (val la % val lb) w) := by
  have hp : (digs (val lb)).length ≠ 0 := fun e => by have := (digs_nil_iff (val lb)).1 (List.eq_nil_of_length_eq_zero e); omega
  by_cases h1 : (digs (val lb)).length = 1
  · exact rdiv_one w A n c la A' n' c' lb ha hb h1 (by omega) (by omega)
  · exact rdiv_long w A n c la A' n' c' lb ha hb ((digs (val lb)).length - 1) (by omega) (by omega) hs hs'

set_option maxHeartbeats 1000000 in
theorem rgcd_calls (w : World) (A : Option Addr) (n c : Nat) (la : List Int) (A' : Option Addr) (n' c' : Nat) (lb : List Int) (ha : Sl w A n c la) (hb : Sl w A' n' c' lb) (hs : n ≤ 35184372088829) (hs' : n' ≤ 35184372088829) :
    Calls Try.prog 49 #[.slice A n c, .slice A' n' c'] w (RetNum (Nat.gcd (val la) (val lb)) w) := by
  have hla := digs_val_len ha.lim
  have hlb := digs_val_len hb.lim
  have hla2 := ha.len
  have hlb2 := hb.len
  go_enter Try.func49, Try.ntmps49
  go_wp2_with fail
  refine (rnorm_calls _ _ _ _ _ ha (by omega)).mono ?_
  rintro e w1 ⟨A1, c1, rfl, hO1, hB1⟩
  go_wp2_with fail
  refine (rnorm_calls _ _ _ _ _ (hb.below hB1) (by omega)).mono ?_
  rintro e w2 ⟨A2, c2, rfl, hO2, hB2⟩
  have hO3 := (hO1.below hB2)
  have hO4 := hO2.base hB1.size
  have hB := below_step hB1 hB2
  go_wp2
  go_loopg [5, 6] (val lb) (fun g xv yv wr => ∃ (X : Nat) (Ax : Option Addr) (cx : Nat) (Ay : Option Addr) (cy : Nat), xv = .slice Ax (digs X).length cx ∧ yv = .slice Ay (digs g).length cy ∧ Own wr w.heap.size Ax (digs X).length cx (digs X) ∧ Own wr w.heap.size Ay (digs g).length cy (digs g) ∧ Hid (Nat.gcd X g = Nat.gcd (val la) (val lb)) ∧ Hid ((digs X).length ≤ 35184372088829) ∧ Hid ((digs g).length ≤ 35184372088829) ∧ Below w.heap.size w wr)
  case atStart => exact ⟨val la, _, _, _, _, rfl, rfl, hO3, hO4, rfl, Nat.le_trans hla (by omega), Nat.le_trans hlb (by omega), hB⟩
  case round =>
    obtain ⟨X, Ax, cx, Ay, cy, rfl, rfl, hX, hY, hg, hlx, hly, hBr⟩ := hrel
    rcases Nat.eq_zero_or_pos gk with h0 | h0
    · subst h0
      have e0 := Lib.hid (show (digs 0).length = 0 by rw [digs_zero]; rfl)
      have e1 := hg.out
      rw [Nat.gcd_zero_right] at e1
      rw [e0.out]
      go_wp2
      go_ret
      rw [e1] at hX ⊢
      exact ⟨_, _, rfl, hX, hBr⟩
    · have hp : 0 < (digs gk).length := by
        rcases Nat.eq_zero_or_pos (digs gk).length with e | e
        · have := (digs_nil_iff gk).1 (List.eq_nil_of_length_eq_zero e); omega
        · exact e
      have hdiv := rdiv_calls wr Ax (digs X).length cx (digs X) Ay (digs gk).length cy (digs gk) hX.sl hY.sl (by rw [val_digs]; exact h0) hlx.out hly.out
      rw [val_digs, val_digs] at hdiv
      replace hdiv := Lib.hid hdiv
      go_wp2_with fail
      refine hdiv.out.mono ?_
      rintro e w5 ⟨Aq, cq, Ar, cr, rfl, hq, hr, hB5⟩
      clear hdiv hq
      go_wp2
      go_roundg (X % gk)
      case rel => exact ⟨gk, _, _, _, _, rfl, rfl, hY.below hB5, hr.base hBr.size, by unfold Hid; rw [← hg.out, Nat.gcd_comm gk, ← Nat.gcd_rec, Nat.gcd_comm], hly, Nat.le_trans (digs_len_mono (Nat.le_of_lt (Nat.mod_lt _ h0))) hly.out, below_step hBr hB5⟩
      case measure => exact Nat.mod_lt _ h0

theorem sq_lt {a m : Nat} (h : a * a < 2 ^ (m + m)) : a < 2 ^ m := by
  rcases Nat.lt_or_ge a (2 ^ m) with h1 | h1
  · exact h1
  · have : 2 ^ m * 2 ^ m ≤ a * a := Nat.mul_le_mul h1 h1
    rw [← Nat.pow_add] at this
    omega
theorem len_of_lt_pow {x m k : Nat} (h : x < 2 ^ m) (hk : m ≤ 32 * k) : (digs x).length ≤ k := digs_len_le (by rw [pow_B]; exact Nat.lt_of_lt_of_le h (Nat.pow_le_pow_right (by omega) hk))

end Go.Proofs.Ytdmahjbjlppeaaa
