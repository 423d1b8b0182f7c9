/- zint.Mul -/
import Derived.Test.YtkidgeeedigkhaaZForm
import Derived.Test.YtkidgeeedigkhaaMul
namespace Go.Proofs.Ytkidgeeedigkhaa
open Go.RowKit

theorem made_digs (w : World) (neg : Bool) (A : Option Addr) (c N : Nat) (h : Sl w A (digs N).length c (digs N)) : Calls Try.prog 53 #[.bool neg, .slice A (digs N).length c] w (RetZ (zof neg N) w) := by
  have := made_calls w neg A _ c _ h
  rwa [val_digs] at this

/-- Two numbers boxed, and a result's block: what the cells hold, in whatever world lies above. -/
def Two (w v : World) (na : Bool) (va : Value) (nb : Bool) (vb : Value) : Prop :=
  v.cell? ⟨w.heap.size, 0, none⟩ = some (.bool na) ∧ v.cell? ⟨w.heap.size, 1, none⟩ = some va ∧ v.cell? ⟨w.heap.size + 1, 0, none⟩ = some (.bool nb) ∧ v.cell? ⟨w.heap.size + 1, 1, none⟩ = some vb
def boxed (w : World) (na : Bool) (va : Value) (nb : Bool) (vb : Value) : World :=
  ((w.alloc (.cells #[.bool na, va] 24)).alloc (.cells #[.bool nb, vb] 24)).alloc (.cells #[.bool false, .slice none 0 0] 24)
theorem boxed_zb (w : World) (na : Bool) (va : Value) (nb : Bool) (vb : Value) : Zb (boxed w na va nb vb) w.heap.size na va ∧ Zb (boxed w na va nb vb) (w.heap.size + 1) nb vb ∧ Zb (boxed w na va nb vb) (w.heap.size + 2) false (.slice none 0 0) := by
  have a1 := Zb.new w na va
  have a2 := Zb.new (w.alloc (.cells #[.bool na, va] 24)) nb vb
  have a3 := Zb.new ((w.alloc (.cells #[.bool na, va] 24)).alloc (.cells #[.bool nb, vb] 24)) false (.slice none 0 0)
  rw [show (w.alloc (.cells #[.bool na, va] 24)).heap.size = w.heap.size + 1 by simp] at a2
  rw [size2] at a3
  exact ⟨(a1.below ((Below.refl _ _).alloc (Nat.le_refl _) _) (by simp)).below ((Below.refl _ _).alloc (Nat.le_refl _) _) (by rw [size2]; omega), a2.below ((Below.refl _ _).alloc (Nat.le_refl _) _) (by rw [size2]; omega), a3⟩
theorem Two.of {w v : World} {na nb : Bool} {va vb : Value} (h : Below (boxed w na va nb vb).heap.size (boxed w na va nb vb) v) : Two w v na va nb vb := by
  obtain ⟨a1, a2, _⟩ := boxed_zb w na va nb vb
  have e : (boxed w na va nb vb).heap.size = w.heap.size + 3 := size3 ..
  have b1 := a1.below h (by omega)
  have b2 := a2.below h (by omega)
  exact ⟨b1.cell0, b1.cell1, b2.cell0, b2.cell1⟩

theorem Two.store {w v : World} {na nb : Bool} {va vb : Value} (h : Below (boxed w na va nb vb).heap.size (boxed w na va nb vb) v) (x y : Value) : Two w ((v.setCell ⟨w.heap.size + 2, 0, none⟩ x).setCell ⟨w.heap.size + 2, 1, none⟩ y) na va nb vb := by
  obtain ⟨a1, a2, _⟩ := boxed_zb w na va nb vb
  have e : (boxed w na va nb vb).heap.size = w.heap.size + 3 := size3 ..
  have b1 := ((a1.below h (by omega)).far (p := ⟨w.heap.size + 2, 0, none⟩) (by simp) x).far (p := ⟨w.heap.size + 2, 1, none⟩) (by simp) y
  have b2 := ((a2.below h (by omega)).far (p := ⟨w.heap.size + 2, 0, none⟩) (by simp) x).far (p := ⟨w.heap.size + 2, 1, none⟩) (by simp) y
  exact ⟨b1.cell0, b1.cell1, b2.cell0, b2.cell1⟩

set_option maxHeartbeats 2000000 in
set_option maxRecDepth 8000 in
theorem zmul_calls (w : World) (na : Bool) (A : Option Addr) (n c : Nat) (la : List Int) (nb : Bool) (A' : Option Addr) (n' c' : Nat) (lb : List Int) (ha : Sl w A n c la) (hb : Sl w A' n' c' lb) (hs : n + n' ≤ 70368744177664) :
    Calls Try.prog 16 #[.agg #[.bool na, .slice A n c], .agg #[.bool nb, .slice A' n' c']] w (RetZ (zof (na != nb) (val la * val lb)) w) := by
  have hS0 : Two w (boxed w na (.slice A n c) nb (.slice A' n' c')) na (.slice A n c) nb (.slice A' n' c') := Two.of (Below.refl _ _)
  have hB0 : Below (boxed w na (.slice A n c) nb (.slice A' n' c')).heap.size (boxed w na (.slice A n c) nb (.slice A' n' c')) (boxed w na (.slice A n c) nb (.slice A' n' c')).drew := below_drawn (Below.refl _ _) ⟨1, rfl⟩
  unfold boxed at hS0 hB0
  replace hS0 := Lib.hid hS0
  replace hB0 := Lib.hid hB0
  go_enter Try.func16, Try.ntmps16
  go_wp2_with fail
  go_region_held3 (fun v => v.cell? ⟨w.heap.size, 0, none⟩ = some (.bool na) ∧ v.cell? ⟨w.heap.size, 1, none⟩ = some (.slice A n c) ∧ v.cell? ⟨w.heap.size + 1, 0, none⟩ = some (.bool nb) ∧ v.cell? ⟨w.heap.size + 1, 1, none⟩ = some (.slice A' n' c'))
    (first | exact hS0.out | exact hS8.out | exact hS9.out | exact Two.store hB9'.out _ _)
    (first
      | (go_at_call 57
         refine (mul_calls _ _ _ _ _ _ _ _ _ (((ha.alloc _).alloc _).alloc _).drew (((hb.alloc _).alloc _).alloc _).drew hs).mono ?_
         rintro e w8 ⟨A8, c8, rfl, hO8, hB8⟩
         have hB8' := Lib.hid (below_step hB0.out hB8)
         have hS8 := Lib.hid (Two.of hB8'.out))
      | (go_at_call 53
         refine (made_digs _ (na != nb) _ _ _ hO8.sl).mono ?_
         rintro e w9 ⟨A9, c9, rfl, hO9, hB9⟩
         have hB9' := Lib.hid (below_step hB8'.out hB9)
         have hS9 := Lib.hid (Two.of hB9'.out)
         obtain ⟨hZ, hBt⟩ := res3 hB9'.out
         have hf := hZ.frozen
         have hz0 := hZ.cell0
         have hz1 := hZ.cell1))
  have hlt : w.heap.size + 2 < w8.heap.size := by have := hB8'.out.size; rw [size3] at this; omega
  clear hS0 hB0 hS8 hS9 hB8' hB9' hB8 hB9
  go_wp2
  refine bodyPost_ret (ret_store rfl _ _ _ _ _ _ _ hZ rfl) rfl ?_
  exact RetZ.store hO9 hBt (by omega) hlt
end Go.Proofs.Ytkidgeeedigkhaa
