/- law02.eq of two numbers in their one form: are they equal? -/
import Derived.Test.YtkidgeeedigkhaaA6
namespace Go.Proofs.Ytkidgeeedigkhaa
open Go.RowKit

theorem first_ne {l l' : List Int} (hl : l.length = l'.length) (hne : l ≠ l') : ∃ m, m < l.length ∧ l.getD m 0 ≠ l'.getD m 0 ∧ ∀ j, j < m → l.getD j 0 = l'.getD j 0 := by
  have key : ∀ n, n ≤ l.length → (∀ j, j < n → l.getD j 0 = l'.getD j 0) ∨ ∃ m, m < n ∧ l.getD m 0 ≠ l'.getD m 0 ∧ ∀ j, j < m → l.getD j 0 = l'.getD j 0 := by
    intro n
    induction n with
    | zero => intro _; exact .inl fun j hj => absurd hj (by omega)
    | succ n ih =>
      intro hn
      rcases ih (by omega) with h | ⟨m, hm, h1, h2⟩
      · by_cases e : l.getD n 0 = l'.getD n 0
        · refine .inl fun j hj => ?_
          by_cases hjn : j = n
          · subst hjn; exact e
          · exact h j (by omega)
        · exact .inr ⟨n, by omega, e, h⟩
      · exact .inr ⟨m, by omega, h1, h2⟩
  rcases key l.length (Nat.le_refl _) with h | h
  · exact absurd (getD_ext hl fun p hp => h p (by omega)) hne
  · exact h
set_option maxHeartbeats 1000000 in
set_option maxRecDepth 8000 in
theorem eq_neg (w : World) (neg : Bool) (A : Option Addr) (n c : Nat) (A' : Option Addr) (n' c' : Nat) :
    Calls Try.prog 12 #[.agg #[.bool neg, .slice A n c], .agg #[.bool (!neg), .slice A' n' c']] w fun e w' => e = .returned (.bool false) ∧ Below w.heap.size w w' := by
  have hB0 : Below w.heap.size w (boxed2 w neg (.slice A n c) (!neg) (.slice A' n' c')) := ((Below.refl _ _).alloc (Nat.le_refl _) _).alloc (by simp) _
  cases neg
  · go_enter Try.func12, Try.ntmps12
    go_wp2
    go_ret
    exact ⟨rfl, hB0⟩
  · go_enter Try.func12, Try.ntmps12
    go_wp2
    go_ret
    exact ⟨rfl, hB0⟩
set_option maxHeartbeats 1000000 in
set_option maxRecDepth 8000 in
theorem eq_len (w : World) (neg : Bool) (A : Option Addr) (n c : Nat) (A' : Option Addr) (n' c' : Nat) (h : n ≠ n') :
    Calls Try.prog 12 #[.agg #[.bool neg, .slice A n c], .agg #[.bool neg, .slice A' n' c']] w fun e w' => e = .returned (.bool false) ∧ Below w.heap.size w w' := by
  have hB0 : Below w.heap.size w (boxed2 w neg (.slice A n c) neg (.slice A' n' c')) := ((Below.refl _ _).alloc (Nat.le_refl _) _).alloc (by simp) _
  have h1 : ((n : Int) == (n' : Int)) = false := beq_eq_false_iff_ne.2 (by omega)
  have h2 : (n == n') = false := beq_eq_false_iff_ne.2 h
  clear h
  go_enter Try.func12, Try.ntmps12
  go_wp2
  go_ret
  exact ⟨rfl, hB0⟩
set_option maxHeartbeats 1000000 in
set_option maxRecDepth 8000 in
theorem eq_limb (w : World) (neg : Bool) (A : Option Addr) (n c : Nat) (A' : Option Addr) (c' : Nat) (l l' : List Int) (ha : Sl w A n c l) (hb : Sl w A' n c' l') (m : Nat) (hm : m < n) (hne : l.getD m 0 ≠ l'.getD m 0) (hj : ∀ j, j < m → l.getD j 0 = l'.getD j 0) :
    Calls Try.prog 12 #[.agg #[.bool neg, .slice A n c], .agg #[.bool neg, .slice A' n c']] w fun e w' => e = .returned (.bool false) ∧ Below w.heap.size w w' := by
  have hsm := ha.small
  have HJ := Lib.hid hj
  have HN := Lib.hid hne
  clear hj hne
  have hB0 : Below w.heap.size w (boxed2 w neg (.slice A n c) neg (.slice A' n c')) := ((Below.refl _ _).alloc (Nat.le_refl _) _).alloc (by simp) _
  go_enter Try.func12, Try.ntmps12
  go_wp2
  go_loopw [5] (fun iv wr => ∃ k : Nat, k ≤ m ∧ iv = .int .i64 k ∧ ∃ d, wr = (boxed2 w neg (.slice A n c) neg (.slice A' n c')).drewN d) (fun iv _ => n - (intOf iv).toNat)
  case atStart => exact ⟨0, Nat.zero_le _, rfl, 0, rfl⟩
  case round =>
    obtain ⟨k, hk, rfl, hd⟩ := hrel
    have hBr := below_drawn hB0 hd
    obtain ⟨q0, q1, q2, q3⟩ := Two.of2 (below_drawn (Below.refl _ _) hd)
    have hlt : k < n := by omega
    obtain ⟨b, off, rfl, hc⟩ := (ha.below hBr).at_ hlt
    obtain ⟨b', off', rfl, hc'⟩ := (hb.below hBr).at_ hlt
    replace hd := Lib.hid hd
    by_cases hkm : k < m
    · have he := HJ.out k hkm
      rw [← he] at hc'
      clear he
      generalize l.getD k 0 = x at *
      go_wp2
      go_quiet (fail)
      go_wp2
      go_roundw
      case rel => exact ⟨k + 1, by omega, by go_num, drawn_step hd.out _⟩
      case measure => simp [intOf] <;> omega
    · obtain rfl : k = m := by omega
      have hn := HN.out
      generalize l.getD k 0 = x at *
      generalize l'.getD k 0 = y at *
      have h1 : (x == y) = false := beq_eq_false_iff_ne.2 hn
      clear hn HN HJ
      go_wp2
      go_quiet (fail)
      go_wp2
      go_ret
      exact ⟨rfl, below_drawn hBr ⟨_, rfl⟩⟩
/-- Are they equal? -/
theorem eq_any {w : World} {x y : Value} {z u : Int} (h : Cz w x z) (h' : Cz w y u) : Calls Try.prog 12 #[x, y] w (Ret (.is (.bool (decide (z = u)))) w) := by
  by_cases e : z = u
  · rw [decide_eq_true e]
    exact eq_k h h' e
  · rw [decide_eq_false e]
    obtain ⟨A, c, rfl, hS⟩ := h
    obtain ⟨A', c', rfl, hS'⟩ := h'
    by_cases hs : decide (z < 0) = decide (u < 0)
    · rw [← hs]
      have hab : z.natAbs ≠ u.natAbs := by
        have : z < 0 ↔ u < 0 := by simpa using hs
        omega
      have hd : digs z.natAbs ≠ digs u.natAbs := fun hd => hab (by rw [← val_digs z.natAbs, hd, val_digs])
      by_cases hn : (digs z.natAbs).length = (digs u.natAbs).length
      · obtain ⟨m, hm, h1, h2⟩ := first_ne hn hd
        rw [← hn] at hS' ⊢
        exact (eq_limb w _ A _ c A' c' _ _ hS hS' m hm h1 h2).mono fun _ _ h => ret_is h
      · exact (eq_len w _ A _ c A' _ c' hn).mono fun _ _ h => ret_is h
    · have : decide (u < 0) = !decide (z < 0) := by
        cases h1 : decide (z < 0) <;> cases h2 : decide (u < 0) <;> simp_all
      rw [this]
      exact (eq_neg w _ A _ c A' _ c').mono fun _ _ h => ret_is h
end Go.Proofs.Ytkidgeeedigkhaa
