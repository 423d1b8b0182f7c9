/- The reference's Bits, Add, less. -/
import Derived.Test.YtgjakbhfahehfaaRNorm
namespace Go.Proofs.Ytgjakbhfahehfaa
open Go.RowKit

theorem val_snoc (o : List Int) (x : Int) : val (o ++ [x]) = val o + 4294967296 ^ o.length * x.toNat := by rw [val_append, val_one]
/-- A sum after k rounds, its limbs appended. -/
structure AddApp (X Y o : List Int) (k : Nat) (c : Int) : Prop where
  len : o.length = k
  c0 : 0 ≤ c
  c1 : c ≤ 1
  eq : val o + 4294967296 ^ k * c.toNat = val (X.take k) + val (Y.take k)
theorem AddApp.step {X Y o : List Int} {k : Nat} {c : Int} (h : AddApp X Y o k c) (hX : Lim X) (hY : Lim Y) :
    AddApp X Y (o ++ [(c + X.getD k 0 + Y.getD k 0) % 4294967296]) (k + 1) ((c + X.getD k 0 + Y.getD k 0) / 4294967296) := by
  have hx := hX.getD k
  have hy := hY.getD k
  have h0 := h.c0
  have h1 := h.c1
  refine ⟨by rw [List.length_append, h.len]; rfl, by omega, by omega, ?_⟩
  rw [val_snoc, h.len, val_take_succ' X, val_take_succ' Y, Nat.pow_succ]
  have e := h.eq
  generalize X.getD k 0 = x at *
  generalize Y.getD k 0 = y at *
  have hs : ((c + x + y) % 4294967296).toNat + 4294967296 * ((c + x + y) / 4294967296).toNat = c.toNat + x.toNat + y.toNat := by omega
  generalize ((c + x + y) % 4294967296).toNat = p at *
  generalize ((c + x + y) / 4294967296).toNat = q at *
  generalize 4294967296 ^ k = B at *
  have : B * (p + 4294967296 * q) = B * (c.toNat + x.toNat + y.toNat) := by rw [hs]
  grind
structure LessApp (X Y o : List Int) (k : Nat) (b : Int) : Prop where
  len : o.length = k
  b0 : 0 ≤ b
  b1 : b ≤ 1
  eq : val (X.take k) + 4294967296 ^ k * b.toNat = val o + val (Y.take k)
theorem LessApp.step {X Y o : List Int} {k : Nat} {b : Int} (h : LessApp X Y o k b) (hX : Lim X) (hY : Lim Y) :
    LessApp X Y (o ++ [(X.getD k 0 - b - Y.getD k 0) % 4294967296]) (k + 1) (if X.getD k 0 < Y.getD k 0 + b then 1 else 0) := by
  have hx := hX.getD k
  have hy := hY.getD k
  have h0 := h.b0
  have h1 := h.b1
  refine ⟨by rw [List.length_append, h.len]; rfl, by split <;> omega, by split <;> omega, ?_⟩
  rw [val_snoc, h.len, val_take_succ' X, val_take_succ' Y, Nat.pow_succ]
  have e := h.eq
  generalize X.getD k 0 = x at *
  generalize Y.getD k 0 = y at *
  have hs : x.toNat + 4294967296 * (if x < y + b then (1 : Int) else 0).toNat = ((x - b - y) % 4294967296).toNat + b.toNat + y.toNat := by split <;> omega
  generalize ((x - b - y) % 4294967296).toNat = p at *
  generalize (if x < y + b then (1 : Int) else 0).toNat = q at *
  generalize 4294967296 ^ k = B at *
  have : B * (x.toNat + 4294967296 * q) = B * (p + b.toNat + y.toNat) := by rw [hs]
  grind
theorem LessApp.last {X Y o : List Int} {n : Nat} {b : Int} (h : LessApp X Y o n b) (hX : X.length = n) (hlo : Lim o) (hle : val Y ≤ val X) : val o = val X - val Y := by
  have e := h.eq
  have hyt := val_split_any Y n
  have h2 := val_lt hlo
  rw [h.len] at h2
  rw [List.take_of_length_le (l := X) (by omega)] at e
  have h0 := h.b0
  have h1 := h.b1
  have hxl : val X < 4294967296 ^ n ∨ True := Or.inr trivial
  rcases Nat.eq_zero_or_pos (val (Y.drop n)) with hd | hd
  · rw [hd, Nat.mul_zero, Nat.add_zero] at hyt
    rcases Nat.eq_zero_or_pos b.toNat with hb | hb
    · rw [hb] at e; omega
    · have : b.toNat = 1 := by omega
      rw [this] at e; omega
  · have := Nat.mul_le_mul_left (4294967296 ^ n) hd
    rcases Nat.eq_zero_or_pos b.toNat with hb | hb
    · rw [hb] at e; omega
    · have : b.toNat = 1 := by omega
      rw [this] at e; omega

set_option maxHeartbeats 1000000 in
theorem rbits_calls (w : World) (A : Option Addr) (n c : Nat) (X : List Int) (h : Sl w A n c X) :
    Calls Try.prog 38 #[.slice A n c] w fun e w' => e = .returned (.int .i64 (blen (val X))) ∧ w = w' := by
  have hsm := h.small
  obtain rfl := h.len
  go_enter Try.func38, Try.ntmps38
  go_wp2
  go_loop [3] (fun iv => ∃ j : Nat, j ≤ X.length ∧ iv = .int .i64 (j - 1) ∧ Hid (val (X.take j) = val X)) (fun iv => (intOf iv + 1).toNat)
  case atStart => exact ⟨X.length, Nat.le_refl _, rfl, by unfold Hid; rw [List.take_length]⟩
  case round =>
    obtain ⟨j, hj, rfl, hv⟩ := hrel
    by_cases h0 : j = 0
    · subst h0
      have e1 := Lib.hid (show blen (val X) = 0 by rw [← hv.out]; rfl)
      go_wp2
      go_ret
      exact ⟨by rw [e1.out]; rfl, rfl⟩
    · obtain ⟨i, rfl⟩ : ∃ i, j = i + 1 := ⟨j - 1, by omega⟩
      clear h0
      have ei : ((i + 1 : Nat) : Int) - 1 = i := by omega
      rw [ei]
      clear ei
      obtain ⟨b, off, rfl, hc⟩ := h.at_ (i := i) (by omega)
      have hx := h.lim.getD i
      by_cases hz : X.getD i 0 = 0
      · have e1 := val_take_pred (l := X) (n := i + 1) (by omega) hj hz
        have e1 := Lib.hid e1
        rw [hz] at hc
        clear hz hx
        go_wp2
        go_round
        case rel => exact ⟨i, by omega, rfl, by unfold Hid; rw [← hv.out]; exact e1⟩
        case measure => simp [intOf] <;> omega
      · have hb := blen_top (h.lim.take (i + 1)) (n := i) (by simp; omega) (by rw [List.getD_eq_getElem?_getD, List.getElem?_take, if_pos (by omega), ← List.getD_eq_getElem?_getD]; exact hz)
        rw [hv.out, show (X.take (i + 1)).getD i 0 = X.getD i 0 by rw [List.getD_eq_getElem?_getD, List.getElem?_take, if_pos (by omega), ← List.getD_eq_getElem?_getD]] at hb
        replace hb := Lib.hid hb
        have hbl : blen (X.getD i 0).toNat ≤ 32 := blen_le_iff.2 (by omega)
        generalize X.getD i 0 = x at *
        have hz' : (x != 0) = true := bne_iff_ne.2 hz
        clear hz
        go_wp2
        go_loop [4, 5] (fun nv wv => ∃ (m : Nat) (y : Int), nv = .int .i64 m ∧ wv = .int .u32 y ∧ 0 ≤ y ∧ y < 4294967296 ∧ Hid (m + blen y.toNat = 32 * i + blen x.toNat) ∧ m ≤ 32 * i + 32) (fun _ wv => (intOf wv).toNat)
        case atStart => exact ⟨32 * i, x, by go_num, rfl, hx.1, hx.2, rfl, by omega⟩
        case round =>
          obtain ⟨m, y, rfl, rfl, hy0, hy1, he, hm⟩ := hrel
          by_cases hyp : 0 < y
          · have hh := blen_half (show y.toNat ≠ 0 by omega)
            have he2 : m + 1 + blen (y / 2).toNat = 32 * i + blen x.toNat := by
              have : (y / 2).toNat = y.toNat / 2 := by omega
              rw [this]; have := he.out; omega
            have hm2 : m + 1 ≤ 32 * i + 32 := by omega
            replace he2 := Lib.hid he2
            clear hh
            go_wp2
            go_round
            case rel => exact ⟨m + 1, y / 2, by go_num, rfl, by omega, by omega, he2, hm2⟩
            case measure => simp [intOf] <;> omega
          · obtain rfl : y = 0 := by omega
            have hmt : m = blen (val X) := by
              have h1 := he.out
              have h2 := hb.out
              have h3 : blen (0 : Int).toNat = 0 := rfl
              omega
            replace hmt := Lib.hid hmt
            go_wp2
            go_ret
            exact ⟨by rw [← hmt.out]; rfl, rfl⟩

set_option maxHeartbeats 1000000 in
theorem radd_calls (w : World) (A : Option Addr) (n c : Nat) (X : List Int) (A' : Option Addr) (n' c' : Nat) (Y : List Int) (hX : Sl w A n c X) (hY : Sl w A' n' c' Y) (hs1 : n < 35184372088832) (hs2 : n' < 35184372088832) :
    Calls Try.prog 45 #[.slice A n c, .slice A' n' c'] w (RetNum (val X + val Y) w) := by
  obtain ⟨K, hK⟩ : ∃ K : Nat, K = max n n' := ⟨_, rfl⟩
  have hKi : max (n : Int) (n' : Int) = (K : Int) := by omega
  have HKi := Lib.hid hKi
  have hK2 : K < 35184372088832 := by omega
  have hKX : X.length ≤ K := by have := hX.len; omega
  have hKY : Y.length ≤ K := by have := hY.len; omega
  clear hKi hK
  go_enter Try.func45, Try.ntmps45
  go_wp2
  go_loopw [5, 6, 7] (fun ov cv iv wr => ∃ (k : Nat) (A1 : Option Addr) (c1 : Nat) (o : List Int) (cy : Int), k ≤ K ∧ ov = .slice A1 k c1 ∧ cv = .int .u64 cy ∧ iv = .int .i64 k ∧ Hid (AddApp X Y o k cy) ∧ 0 ≤ cy ∧ cy ≤ 1 ∧ Own wr w.heap.size A1 k c1 o ∧ Below w.heap.size w wr) (fun _ _ iv _ => K - (intOf iv).toNat)
  case atStart => exact ⟨0, none, 0, [], 0, Nat.zero_le _, rfl, rfl, rfl, ⟨rfl, by omega, by omega, by simp [val]⟩, by omega, by omega, Own.nil _ _, Below.refl _ _⟩
  case round =>
    obtain ⟨k, A1, c1, o, cy, hk, rfl, rfl, rfl, hinv, hc0, hc1, hO, hB⟩ := hrel
    go_wp2_with fail
    refine (most_calls _ _ _).mono ?_
    rintro e w' ⟨rfl, rfl⟩
    rw [HKi.out]
    by_cases hlt : k < K
    · have l1 := Lib.hid (limb_calls wr A n c X k (hX.below hB) (by omega))
      have l2 := Lib.hid (limb_calls wr A' n' c' Y k (hY.below hB) (by omega))
      rw [Int.toNat_natCast] at l1 l2
      have hstep := Lib.hid (hinv.out.step hX.lim hY.lim)
      have hx := hX.lim.getD k
      have hy := hY.lim.getD k
      generalize X.getD k 0 = x at *
      generalize Y.getD k 0 = y at *
      go_wp2_with fail
      refine l1.out.mono ?_
      rintro e w' ⟨rfl, rfl⟩
      go_wp2_with fail
      refine l2.out.mono ?_
      rintro e w' ⟨rfl, rfl⟩
      clear l1 l2
      go_wp2_with (at_builtin; refine append_u32 _ rfl _ _ rfl w.heap.size A1 k c1 o _ 1 1 [(cy + x + y) % 4294967296] rfl rfl (hO.alloc _) (Row.lit1 _ (by omega) (by omega)).toOwn.sl ?_ ?_ ?_; omega; (have := hB.size; simp; omega); intro A2 c2 w4 hO4 hg4 hat4; have hB4 := below_append (hB.alloc hB.size _) (hO.alloc _) (Nat.le_refl _) hg4)
      go_roundw
      case rel => exact ⟨k + 1, A2, c2, _, _, by omega, rfl, rfl, by go_num, hstep, by omega, by omega, hO4, hB4⟩
      case measure => simp [intOf] <;> omega
    · obtain rfl : k = K := by omega
      have hv : val (o ++ [cy]) = val X + val Y := by
        have e := hinv.out.eq
        rw [List.take_of_length_le hKX, List.take_of_length_le hKY] at e
        rw [val_snoc, hinv.out.len]
        exact e
      have hv := Lib.hid hv
      go_wp2_with (at_builtin; refine append_u32 _ rfl _ _ rfl w.heap.size A1 k c1 o _ 1 1 [cy] rfl rfl (hO.alloc _) (Row.lit1 _ (by omega) (by omega)).toOwn.sl ?_ ?_ ?_; omega; (have := hB.size; simp; omega); intro A2 c2 w4 hO4 hg4 hat4; have hB4 := below_append (hB.alloc hB.size _) (hO.alloc _) (Nat.le_refl _) hg4)
      refine (rnorm_calls _ _ _ _ _ hO4.sl (by omega)).mono ?_
      rintro e w5 ⟨A3, c3, rfl, hO5, hB5⟩
      rw [hv.out] at hO5 ⊢
      go_wp2
      go_ret
      exact ⟨A3, c3, rfl, hO5.base hB4.size, below_step hB4 hB5⟩

set_option maxHeartbeats 1000000 in
theorem rless_calls (w : World) (A : Option Addr) (n c : Nat) (X : List Int) (A' : Option Addr) (n' c' : Nat) (Y : List Int) (hX : Sl w A n c X) (hY : Sl w A' n' c' Y) (hs1 : n ≤ 35184372088832) (hle : val Y ≤ val X) :
    Calls Try.prog 42 #[.slice A n c, .slice A' n' c'] w (RetNum (val X - val Y) w) := by
  have hXl := hX.len
  go_enter Try.func42, Try.ntmps42
  go_wp2
  go_loopw [5, 6, 7] (fun ov cv iv wr => ∃ (k : Nat) (A1 : Option Addr) (c1 : Nat) (o : List Int) (cy : Int), k ≤ n ∧ ov = .slice A1 k c1 ∧ cv = .int .u64 cy ∧ iv = .int .i64 k ∧ Hid (LessApp X Y o k cy) ∧ 0 ≤ cy ∧ cy ≤ 1 ∧ Own wr w.heap.size A1 k c1 o ∧ Below w.heap.size w wr) (fun _ _ iv _ => n - (intOf iv).toNat)
  case atStart => exact ⟨0, none, 0, [], 0, Nat.zero_le _, rfl, rfl, rfl, ⟨rfl, by omega, by omega, by simp [val]⟩, by omega, by omega, Own.nil _ _, Below.refl _ _⟩
  case round =>
    obtain ⟨k, A1, c1, o, cy, hk, rfl, rfl, rfl, hinv, hc0, hc1, hO, hB⟩ := hrel
    by_cases hlt : k < n
    · have l1 := Lib.hid (limb_calls wr A n c X k (hX.below hB) (by omega))
      have l2 := Lib.hid (limb_calls wr A' n' c' Y k (hY.below hB) (by omega))
      rw [Int.toNat_natCast] at l1 l2
      have hstep := hinv.out.step hX.lim hY.lim
      have hx := hX.lim.getD k
      have hy := hY.lim.getD k
      generalize X.getD k 0 = x at *
      generalize Y.getD k 0 = y at *
      by_cases hxy : x < y + cy
      · rw [if_pos hxy, show (x - cy - y) % 4294967296 = x + 4294967296 - (y + cy) by omega] at hstep
        replace hstep := Lib.hid hstep
        go_wp2_with fail
        refine l1.out.mono ?_
        rintro e w' ⟨rfl, rfl⟩
        go_wp2_with fail
        refine l2.out.mono ?_
        rintro e w' ⟨rfl, rfl⟩
        clear l1 l2
        go_wp2_with (at_builtin; refine append_u32 _ rfl _ _ rfl w.heap.size A1 k c1 o _ 1 1 [x + 4294967296 - (y + cy)] rfl rfl (hO.alloc _) (Row.lit1 _ (by omega) (by omega)).toOwn.sl ?_ ?_ ?_; omega; (have := hB.size; simp; omega); intro A2 c2 w4 hO4 hg4 hat4; have hB4 := below_append (hB.alloc hB.size _) (hO.alloc _) (Nat.le_refl _) hg4)
        go_roundw
        case rel => exact ⟨k + 1, A2, c2, _, _, by omega, rfl, rfl, by go_num, hstep, by omega, by omega, hO4, hB4⟩
        case measure => simp [intOf] <;> omega
      · rw [if_neg hxy, show (x - cy - y) % 4294967296 = x - (y + cy) by omega] at hstep
        replace hstep := Lib.hid hstep
        go_wp2_with fail
        refine l1.out.mono ?_
        rintro e w' ⟨rfl, rfl⟩
        go_wp2_with fail
        refine l2.out.mono ?_
        rintro e w' ⟨rfl, rfl⟩
        clear l1 l2
        go_wp2_with (at_builtin; refine append_u32 _ rfl _ _ rfl w.heap.size A1 k c1 o _ 1 1 [x - (y + cy)] rfl rfl (hO.alloc _) (Row.lit1 _ (by omega) (by omega)).toOwn.sl ?_ ?_ ?_; omega; (have := hB.size; simp; omega); intro A2 c2 w4 hO4 hg4 hat4; have hB4 := below_append (hB.alloc hB.size _) (hO.alloc _) (Nat.le_refl _) hg4)
        go_roundw
        case rel => exact ⟨k + 1, A2, c2, _, _, by omega, rfl, rfl, by go_num, hstep, by omega, by omega, hO4, hB4⟩
        case measure => simp [intOf] <;> omega
    · obtain rfl : k = n := by omega
      have hv := Lib.hid (hinv.out.last hXl hO.lim hle)
      go_wp2_with fail
      refine (rnorm_calls _ _ _ _ _ hO.sl (by omega)).mono ?_
      rintro e w5 ⟨A3, c3, rfl, hO5, hB5⟩
      rw [hv.out] at hO5 ⊢
      go_wp2
      go_ret
      exact ⟨A3, c3, rfl, hO5.base hB.size, below_step hB hB5⟩

end Go.Proofs.Ytgjakbhfahehfaa
