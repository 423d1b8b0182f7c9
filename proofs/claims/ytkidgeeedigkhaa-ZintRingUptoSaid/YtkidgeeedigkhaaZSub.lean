/- zint.Sub -/
import Derived.Test.YtkidgeeedigkhaaZAdd
namespace Go.Proofs.Ytkidgeeedigkhaa
open Go.RowKit

theorem zof_not (nb : Bool) (b : Nat) : zof (!nb) b = -zof nb b := by unfold zof; cases nb <;> simp
theorem zof_z (z : Int) : zof (decide (z < 0)) z.natAbs = z := by
  unfold zof
  by_cases h : z < 0 <;> simp [h] <;> omega
/-- zint.Add where the second is in its one form. -/
theorem zadd_z (w : World) (na : Bool) (A : Option Addr) (n c : Nat) (la : List Int) (z : Int) (A' : Option Addr) (c' : Nat) (ha : Sl w A n c la) (hb : Sl w A' (digs z.natAbs).length c' (digs z.natAbs)) (hs : n < 70368744177664) (hs' : (digs z.natAbs).length < 70368744177664) :
    Calls Try.prog 14 #[.agg #[.bool na, .slice A n c], .agg #[.bool (decide (z < 0)), .slice A' (digs z.natAbs).length c']] w (RetZ (zof na (val la) + z) w) := by
  have := zadd_calls w na A n c la (decide (z < 0)) A' _ c' _ ha hb hs hs'
  rwa [val_digs, zof_z] at this

set_option maxHeartbeats 2000000 in
set_option maxRecDepth 8000 in
theorem zsub_calls (w : World) (na : Bool) (A : Option Addr) (n c : Nat) (la : List Int) (nb : Bool) (A' : Option Addr) (n' c' : Nat) (lb : List Int) (ha : Sl w A n c la) (hb : Sl w A' n' c' lb) (hs : n < 70368744177664) (hs' : n' < 70368744177664) :
    Calls Try.prog 13 #[.agg #[.bool na, .slice A n c], .agg #[.bool nb, .slice A' n' c']] w (RetZ (zof na (val la) - zof nb (val lb)) w) := by
  have hS0 : Two w (boxed w na (.slice A n c) nb (.slice A' n' c')) na (.slice A n c) nb (.slice A' n' c') := Two.of (Below.refl _ _)
  have hB0 : Below (boxed w na (.slice A n c) nb (.slice A' n' c')).heap.size (boxed w na (.slice A n c) nb (.slice A' n' c')) (boxed w na (.slice A n c) nb (.slice A' n' c')).drew := below_drawn (Below.refl _ _) ⟨1, rfl⟩
  have hdl : (digs (zof (!nb) (val lb)).natAbs).length < 70368744177664 := by
    rw [zof_abs]
    have := digs_val_len hb.lim
    have := hb.len
    omega
  have hz : zof na (val la) - zof nb (val lb) = zof na (val la) + zof (!nb) (val lb) := by rw [zof_not]; omega
  rw [hz]
  clear hz
  unfold boxed at hS0 hB0
  replace hS0 := Lib.hid hS0
  replace hB0 := Lib.hid hB0
  go_enter Try.func13, Try.ntmps13
  go_wp2_with fail
  go_region_held3 (fun v => v.cell? ⟨w.heap.size, 0, none⟩ = some (.bool na) ∧ v.cell? ⟨w.heap.size, 1, none⟩ = some (.slice A n c) ∧ v.cell? ⟨w.heap.size + 1, 0, none⟩ = some (.bool nb) ∧ v.cell? ⟨w.heap.size + 1, 1, none⟩ = some (.slice A' n' c'))
    (first | exact hS0.out | exact hS8.out | exact hS9.out | exact Two.store hB9'.out _ _)
    (first
      | (go_at_call 44
         refine (neg_calls _ nb _ _ _ _ (((hb.alloc _).alloc _).alloc _).drew).mono ?_
         rintro e w8 ⟨A8, c8, rfl, hO8, hB8⟩
         have hB8' := Lib.hid (below_step hB0.out hB8)
         have hS8 := Lib.hid (Two.of hB8'.out))
      | (go_at_call 14
         refine (zadd_z _ na _ _ _ _ _ _ _ (((((ha.alloc _).alloc _).alloc _).drew).below hB8) hO8.sl hs hdl).mono ?_
         rintro e w9 ⟨A9, c9, rfl, hO9, hB9⟩
         have hB9' := Lib.hid (below_step hB8'.out hB9)
         have hS9 := Lib.hid (Two.of hB9'.out)
         obtain ⟨hZ, hBt⟩ := res3 hB9'.out
         have hf := hZ.frozen
         have hz0 := hZ.cell0
         have hz1 := hZ.cell1))
  all_goals
    have hlt : w.heap.size + 2 < w8.heap.size := by have := hB8'.out.size; rw [size3] at this; omega
    clear hS0 hB0 hS8 hS9 hB8' hB9' hB8 hB9
    go_wp2
    refine bodyPost_ret (ret_store rfl _ _ _ _ _ _ _ hZ rfl) rfl ?_
    exact RetZ.store hO9 hBt (by omega) hlt
end Go.Proofs.Ytkidgeeedigkhaa
