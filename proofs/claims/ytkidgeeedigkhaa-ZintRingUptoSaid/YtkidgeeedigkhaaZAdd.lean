/- zint.Add -/
import Derived.Test.YtkidgeeedigkhaaZMul
import Derived.Test.YtkidgeeedigkhaaAdd
import Derived.Test.YtkidgeeedigkhaaSub
namespace Go.Proofs.Ytkidgeeedigkhaa
open Go.RowKit

theorem zof_same (neg : Bool) (a b : Nat) : zof neg a + zof neg b = zof neg (a + b) := by unfold zof; split <;> omega
theorem zof_other {na nb : Bool} (h : na ≠ nb) {a b : Nat} (hab : b ≤ a) : zof na a + zof nb b = zof na (a - b) := by
  unfold zof
  cases na <;> cases nb <;> simp at h ⊢ <;> omega

set_option maxHeartbeats 2000000 in
set_option maxRecDepth 8000 in
theorem zadd_same (w : World) (na : Bool) (A : Option Addr) (n c : Nat) (la : List Int) (A' : Option Addr) (n' c' : Nat) (lb : List Int) (ha : Sl w A n c la) (hb : Sl w A' n' c' lb) (hs : n < 70368744177664) (hs' : n' < 70368744177664) :
    Calls Try.prog 14 #[.agg #[.bool na, .slice A n c], .agg #[.bool na, .slice A' n' c']] w (RetZ (zof na (val la + val lb)) w) := by
  have hS0 : Two w (boxed w na (.slice A n c) na (.slice A' n' c')) na (.slice A n c) na (.slice A' n' c') := Two.of (Below.refl _ _)
  have hB0 : Below (boxed w na (.slice A n c) na (.slice A' n' c')).heap.size (boxed w na (.slice A n c) na (.slice A' n' c')) (boxed w na (.slice A n c) na (.slice A' n' c')).drew := below_drawn (Below.refl _ _) ⟨1, rfl⟩
  unfold boxed at hS0 hB0
  replace hS0 := Lib.hid hS0
  replace hB0 := Lib.hid hB0
  go_enter Try.func14, Try.ntmps14
  go_wp2_with fail
  go_region_held3 (fun v => v.cell? ⟨w.heap.size, 0, none⟩ = some (.bool na) ∧ v.cell? ⟨w.heap.size, 1, none⟩ = some (.slice A n c) ∧ v.cell? ⟨w.heap.size + 1, 0, none⟩ = some (.bool na) ∧ v.cell? ⟨w.heap.size + 1, 1, none⟩ = some (.slice A' n' c'))
    (first | exact hS0.out | exact hS8.out | exact hS9.out | exact Two.store hB9'.out _ _)
    (first
      | (go_at_call 54
         refine (add_calls _ _ _ _ _ _ _ _ _ (((ha.alloc _).alloc _).alloc _).drew (((hb.alloc _).alloc _).alloc _).drew hs hs' _ rfl).mono ?_
         rintro e w8 ⟨A8, c8, rfl, hO8, hB8⟩
         have hB8' := Lib.hid (below_step hB0.out hB8)
         have hS8 := Lib.hid (Two.of hB8'.out))
      | (go_at_call 53
         refine (made_digs _ na _ _ _ hO8.sl).mono ?_
         rintro e w9 ⟨A9, c9, rfl, hO9, hB9⟩
         have hB9' := Lib.hid (below_step hB8'.out hB9)
         have hS9 := Lib.hid (Two.of hB9'.out)
         obtain ⟨hZ, hBt⟩ := res3 hB9'.out
         have hf := hZ.frozen
         have hz0 := hZ.cell0
         have hz1 := hZ.cell1))
  have hlt : w.heap.size + 2 < w8.heap.size := by have := hB8'.out.size; rw [size3] at this; omega
  clear hS0 hB0 hS8 hS9 hB8' hB9' hB8 hB9
  go_wp2
  refine bodyPost_ret (ret_store rfl _ _ _ _ _ _ _ hZ rfl) rfl ?_
  exact RetZ.store hO9 hBt (by omega) hlt

set_option maxHeartbeats 2000000 in
set_option maxRecDepth 8000 in
theorem zadd_ge (w : World) (na nb : Bool) (A : Option Addr) (n c : Nat) (la : List Int) (A' : Option Addr) (n' c' : Nat) (lb : List Int) (ha : Sl w A n c la) (hb : Sl w A' n' c' lb) (hne : na ≠ nb) (hge : val lb ≤ val la) :
    Calls Try.prog 14 #[.agg #[.bool na, .slice A n c], .agg #[.bool nb, .slice A' n' c']] w (RetZ (zof na (val la - val lb)) w) := by
  have hnb : (na == nb) = false := beq_eq_false_iff_ne.2 hne
  have hcmp : 0 ≤ cmpN (val la) (val lb) := by unfold cmpN; split <;> (try split) <;> omega
  have HGE := Lib.hid hge
  clear hge hne
  go_enter Try.func14, Try.ntmps14
  go_wp2_with fail
  refine (cmp_calls _ _ _ _ _ _ _ _ _ (((ha.alloc _).alloc _).alloc _) (((hb.alloc _).alloc _).alloc _)).mono ?_
  rintro e w1 ⟨rfl, hd⟩
  generalize cmpN (val la) (val lb) = cv at *
  have hB1 : Below (boxed w na (.slice A n c) nb (.slice A' n' c')).heap.size (boxed w na (.slice A n c) nb (.slice A' n' c')) w1 := below_drawn (Below.refl _ _) hd
  obtain ⟨q0, q1, q2, q3⟩ := Two.of hB1
  obtain ⟨hZ1, hBa⟩ := res3 hB1
  replace hB1 := Lib.hid hB1
  have hdc : decide (cv < 0) = false := by simp; omega
  go_wp2_with fail
  refine (sub_calls _ _ _ _ _ _ _ _ _ (ha.below hBa) (hb.below hBa) HGE.out).mono ?_
  rintro e w2 ⟨A2, c2, rfl, hO2, hB2⟩
  have hB2' := below_step hB1.out hB2
  obtain ⟨q0', q1', q2', q3'⟩ := Two.of hB2'
  replace hB2' := Lib.hid hB2'
  clear q0 q1 q2 q3
  go_wp2_with fail
  refine (made_digs _ na _ _ _ hO2.sl).mono ?_
  rintro e w3 ⟨A3, c3, rfl, hO3, hB3⟩
  have hlt : w.heap.size + 2 < w2.heap.size := by have := hB2'.out.size; unfold boxed at this; rw [size3] at this; omega
  obtain ⟨hZ, hBt⟩ := res3 (below_step hB2'.out hB3)
  have hf := hZ.frozen
  have hz0 := hZ.cell0
  have hz1 := hZ.cell1
  clear hB2' hB3 hB2 hB1 hd
  go_wp2
  refine bodyPost_ret (ret_store rfl _ _ _ _ _ _ _ hZ rfl) rfl ?_
  exact RetZ.store hO3 hBt (by omega) hlt

/-- Both boxes change their contents. -/
def swapped (v : World) (g : Nat) (na : Bool) (va : Value) (nb : Bool) (vb : Value) : World :=
  (((v.setCell ⟨g, 0, none⟩ (.bool nb)).setCell ⟨g, 1, none⟩ vb).setCell ⟨g + 1, 0, none⟩ (.bool na)).setCell ⟨g + 1, 1, none⟩ va
theorem swapped_of {w v : World} {na nb : Bool} {va vb : Value} (h : Below (boxed w na va nb vb).heap.size (boxed w na va nb vb) v) :
    Zb (swapped v w.heap.size na va nb vb) w.heap.size nb vb ∧ Zb (swapped v w.heap.size na va nb vb) (w.heap.size + 1) na va ∧ Zb (swapped v w.heap.size na va nb vb) (w.heap.size + 2) false (.slice none 0 0) ∧ Below w.heap.size w (swapped v w.heap.size na va nb vb) := by
  obtain ⟨a1, a2, a3⟩ := boxed_zb w na va nb vb
  have e : (boxed w na va nb vb).heap.size = w.heap.size + 3 := size3 ..
  have b1 := (a1.below h (by omega)).set_ nb vb
  have b2 := (((a2.below h (by omega)).far (p := ⟨w.heap.size, 0, none⟩) (by simp) (.bool nb)).far (p := ⟨w.heap.size, 1, none⟩) (by simp) vb).set_ na va
  have b3 := ((((a3.below h (by omega)).far (p := ⟨w.heap.size, 0, none⟩) (by simp) (.bool nb)).far (p := ⟨w.heap.size, 1, none⟩) (by simp) vb).far (p := ⟨w.heap.size + 1, 0, none⟩) (by simp) (.bool na)).far (p := ⟨w.heap.size + 1, 1, none⟩) (by simp) va
  refine ⟨(b1.far (p := ⟨w.heap.size + 1, 0, none⟩) (by simp) (.bool na)).far (p := ⟨w.heap.size + 1, 1, none⟩) (by simp) va, b2, b3, ?_⟩
  exact below_set2 (below_set2 (res3 h).2 (Nat.le_refl _) _ _) (by omega) _ _

set_option maxHeartbeats 2000000 in
set_option maxRecDepth 8000 in
theorem zadd_lt (w : World) (na nb : Bool) (A : Option Addr) (n c : Nat) (la : List Int) (A' : Option Addr) (n' c' : Nat) (lb : List Int) (ha : Sl w A n c la) (hb : Sl w A' n' c' lb) (hne : na ≠ nb) (hlt0 : val la < val lb) :
    Calls Try.prog 14 #[.agg #[.bool na, .slice A n c], .agg #[.bool nb, .slice A' n' c']] w (RetZ (zof nb (val lb - val la)) w) := by
  have hnb : (na == nb) = false := beq_eq_false_iff_ne.2 hne
  have hcmp : cmpN (val la) (val lb) = -1 := cmpN_lt hlt0
  have HGE := Lib.hid (show val la ≤ val lb by omega)
  clear hlt0 hne
  go_enter Try.func14, Try.ntmps14
  go_wp2_with fail
  refine (cmp_calls _ _ _ _ _ _ _ _ _ (((ha.alloc _).alloc _).alloc _) (((hb.alloc _).alloc _).alloc _)).mono ?_
  rintro e w1 ⟨rfl, hd⟩
  rw [hcmp]
  clear hcmp
  have hB1 : Below (boxed w na (.slice A n c) nb (.slice A' n' c')).heap.size (boxed w na (.slice A n c) nb (.slice A' n' c')) w1 := below_drawn (Below.refl _ _) hd
  obtain ⟨q0, q1, q2, q3⟩ := Two.of hB1
  obtain ⟨f1, f2, hZ1, hBs⟩ := swapped_of hB1
  obtain ⟨a1, a2, _⟩ := boxed_zb w na (.slice A n c) nb (.slice A' n' c')
  have e3 : (boxed w na (.slice A n c) nb (.slice A' n' c')).heap.size = w.heap.size + 3 := size3 ..
  have g1 := (a1.below hB1 (by omega)).frozen
  have g2 := (a2.below hB1 (by omega)).frozen
  have hszs : (swapped w1 w.heap.size na (.slice A n c) nb (.slice A' n' c')).heap.size = w1.heap.size := by simp [swapped, World.setCell]
  have hsz1 := hB1.size
  replace hszs := Lib.hid hszs
  replace hsz1 := Lib.hid hsz1
  replace e3 := Lib.hid e3
  clear hB1 a1 a2
  go_wp2_with fail
  generalize hws : (((w1.setCell ⟨w.heap.size, 0, none⟩ (.bool nb)).setCell ⟨w.heap.size, 1, none⟩ (.slice A' n' c')).setCell ⟨w.heap.size + 1, 0, none⟩ (.bool na)).setCell ⟨w.heap.size + 1, 1, none⟩ (.slice A n c) = ws
  have hws2 : swapped w1 w.heap.size na (.slice A n c) nb (.slice A' n' c') = ws := hws
  rw [hws2] at f1 f2 hZ1 hBs hszs
  refine (sub_calls _ _ _ _ _ _ _ _ _ (hb.below hBs) (ha.below hBs) HGE.out).mono ?_
  rintro e w2 ⟨A2, c2, rfl, hO2, hB2⟩
  have k1 := f1.below hB2 f1.lt
  have k3 := hZ1.below hB2 hZ1.lt
  have k10 := k1.cell0
  have hBt2 := below_step hBs hB2
  have hlt3 := hZ1.lt
  have hle3 := hB2.size
  clear hws hws2 q0 q1 q2 q3 g1 g2 f1 f2 hZ1 hB2 hBs k1 hd hszs hsz1 e3
  go_wp2_with fail
  refine (made_digs _ nb _ _ _ hO2.sl).mono ?_
  rintro e w3 ⟨A3, c3, rfl, hO3, hB3⟩
  have hZ := k3.below hB3 (by omega)
  have hBt := below_step hBt2 hB3
  have hf := hZ.frozen
  have hz0 := hZ.cell0
  have hz1 := hZ.cell1
  clear hBt2 hB3 k3
  go_wp2
  refine bodyPost_ret (ret_store rfl _ _ _ _ _ _ _ hZ rfl) rfl ?_
  exact RetZ.store hO3 hBt (by omega) (by omega)

/-- zint.Add is the sum. -/
theorem zadd_calls (w : World) (na : Bool) (A : Option Addr) (n c : Nat) (la : List Int) (nb : Bool) (A' : Option Addr) (n' c' : Nat) (lb : List Int) (ha : Sl w A n c la) (hb : Sl w A' n' c' lb) (hs : n < 70368744177664) (hs' : n' < 70368744177664) :
    Calls Try.prog 14 #[.agg #[.bool na, .slice A n c], .agg #[.bool nb, .slice A' n' c']] w (RetZ (zof na (val la) + zof nb (val lb)) w) := by
  by_cases hne : na = nb
  · subst hne
    rw [zof_same]
    exact zadd_same w na A n c la A' n' c' lb ha hb hs hs'
  · rcases Nat.lt_or_ge (val la) (val lb) with h | h
    · rw [Int.add_comm, zof_other (fun e => hne e.symm) (by omega)]
      exact zadd_lt w na nb A n c la A' n' c' lb ha hb hne h
    · rw [zof_other hne h]
      exact zadd_ge w na nb A n c la A' n' c' lb ha hb hne h
end Go.Proofs.Ytkidgeeedigkhaa
