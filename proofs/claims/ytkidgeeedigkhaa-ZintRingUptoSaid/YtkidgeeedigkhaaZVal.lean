/- The contracts of zint by a value that stands for a number: Az (any form), Cz (the one form). -/
import Derived.Test.YtkidgeeedigkhaaZAlive
namespace Go.Proofs.Ytkidgeeedigkhaa
open Go.RowKit

/-- The value x is the number z in its one form. -/
structure Cz (v : World) (x : Value) (z : Int) : Prop where
  ex : ∃ A c, x = .agg #[.bool (decide (z < 0)), .slice A (digs z.natAbs).length c] ∧ Sl v A (digs z.natAbs).length c (digs z.natAbs)
/-- The value x stands for the number z, of N limbs at the most. -/
structure Az (N : Nat) (v : World) (x : Value) (z : Int) : Prop where
  ex : ∃ neg A n c l, x = .agg #[.bool neg, .slice A n c] ∧ Sl v A n c l ∧ zof neg (val l) = z ∧ n ≤ N
def RetC (z : Int) (w : World) (e : Ending) (w' : World) : Prop := ∃ r, e = .returned r ∧ Cz w' r z ∧ Below w.heap.size w w'
theorem RetZ.c {z : Int} {w : World} {e : Ending} {w' : World} (h : RetZ z w e w') : RetC z w e w' := by
  obtain ⟨A, c, rfl, hO, hB⟩ := h
  exact ⟨_, rfl, ⟨A, c, rfl, hO.sl⟩, hB⟩
theorem Cz.below {v v' : World} {x : Value} {z : Int} (h : Cz v x z) (hB : Below v.heap.size v v') : Cz v' x z := by
  obtain ⟨A, c, rfl, hS⟩ := h
  exact ⟨A, c, rfl, hS.below hB⟩
theorem Az.below {N : Nat} {v v' : World} {x : Value} {z : Int} (h : Az N v x z) (hB : Below v.heap.size v v') : Az N v' x z := by
  obtain ⟨neg, A, n, c, l, rfl, hS, hz, hn⟩ := h
  exact ⟨neg, A, n, c, l, rfl, hS.below hB, hz, hn⟩
theorem Cz.az {v : World} {x : Value} {z : Int} {N : Nat} (h : Cz v x z) (hN : (digs z.natAbs).length ≤ N) : Az N v x z := by
  obtain ⟨A, c, rfl, hS⟩ := h
  exact ⟨_, A, _, c, _, rfl, hS, by rw [val_digs, zof_z], hN⟩
theorem Az.len {N : Nat} {v : World} {x : Value} {z : Int} (h : Az N v x z) : (digs z.natAbs).length ≤ N := by
  obtain ⟨neg, A, n, c, l, rfl, hS, rfl, hn⟩ := h
  rw [zof_abs]
  have := digs_val_len hS.lim
  have := hS.len
  omega
theorem len_add {y z : Int} {k : Nat} (hy : (digs y.natAbs).length ≤ k) (hz : (digs z.natAbs).length ≤ k) : (digs (y + z).natAbs).length ≤ k + 1 := digs_len_le (by
  have h1 := digs_len_lt_iff.1 hy
  have h2 := digs_len_lt_iff.1 hz
  rw [Nat.pow_succ]
  omega)
theorem len_neg {z : Int} {k : Nat} (hz : (digs z.natAbs).length ≤ k) : (digs (-z).natAbs).length ≤ k := by rwa [Int.natAbs_neg]
theorem len_mul {y z : Int} {k m : Nat} (hy : (digs y.natAbs).length ≤ k) (hz : (digs z.natAbs).length ≤ m) : (digs (y * z).natAbs).length ≤ k + m := digs_len_le (by
  have h1 := digs_len_lt_iff.1 hy
  have h2 := digs_len_lt_iff.1 hz
  rw [Int.natAbs_mul, Nat.pow_add]
  exact Nat.mul_lt_mul'' h1 h2)

theorem add_c {N M : Nat} {v : World} {x x' : Value} {y z : Int} (h : Az N v x y) (h' : Az M v x' z) (hN : N ≤ 35184372088832) (hM : M ≤ 35184372088832) : Calls Try.prog 14 #[x, x'] v (RetC (y + z) v) := by
  obtain ⟨neg, A, n, c, l, rfl, hS, rfl, hn⟩ := h
  obtain ⟨neg', A', n', c', l', rfl, hS', rfl, hn'⟩ := h'
  exact (zadd_calls v neg A n c l neg' A' n' c' l' hS hS' (by omega) (by omega)).mono fun _ _ h => h.c
theorem sub_c {N M : Nat} {v : World} {x x' : Value} {y z : Int} (h : Az N v x y) (h' : Az M v x' z) (hN : N ≤ 35184372088832) (hM : M ≤ 35184372088832) : Calls Try.prog 13 #[x, x'] v (RetC (y - z) v) := by
  obtain ⟨neg, A, n, c, l, rfl, hS, rfl, hn⟩ := h
  obtain ⟨neg', A', n', c', l', rfl, hS', rfl, hn'⟩ := h'
  exact (zsub_calls v neg A n c l neg' A' n' c' l' hS hS' (by omega) (by omega)).mono fun _ _ h => h.c
theorem mul_c {N M : Nat} {v : World} {x x' : Value} {y z : Int} (h : Az N v x y) (h' : Az M v x' z) (hN : N ≤ 35184372088832) (hM : M ≤ 35184372088832) : Calls Try.prog 16 #[x, x'] v (RetC (y * z) v) := by
  obtain ⟨neg, A, n, c, l, rfl, hS, rfl, hn⟩ := h
  obtain ⟨neg', A', n', c', l', rfl, hS', rfl, hn'⟩ := h'
  have e : zof (neg != neg') (val l * val l') = zof neg (val l) * zof neg' (val l') := by
    unfold zof
    cases neg <;> cases neg' <;> simp [Int.neg_mul, Int.mul_neg]
  rw [← e]
  exact (zmul_calls v neg A n c l neg' A' n' c' l' hS hS' (by omega)).mono fun _ _ h => h.c
theorem form_c {N : Nat} {v : World} {x : Value} {y : Int} (h : Az N v x y) : Calls Try.prog 15 #[x] v (RetC y v) := by
  obtain ⟨neg, A, n, c, l, rfl, hS, rfl, hn⟩ := h
  exact (form_calls v neg A n c l hS).mono fun _ _ h => h.c
theorem eq_c {v : World} {x x' : Value} {y z : Int} (h : Cz v x y) (h' : Cz v x' z) (hyz : y = z) : Calls Try.prog 12 #[x, x'] v fun e w' => e = .returned (.bool true) ∧ Below v.heap.size v w' := by
  subst hyz
  obtain ⟨A, c, rfl, hS⟩ := h
  obtain ⟨A', c', rfl, hS'⟩ := h'
  exact eq_calls v _ A _ c A' c' _ hS hS'
end Go.Proofs.Ytkidgeeedigkhaa
