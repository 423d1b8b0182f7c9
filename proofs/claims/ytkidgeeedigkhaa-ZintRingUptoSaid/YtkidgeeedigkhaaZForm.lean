/- zint.Form, zint.Neg, zint.Abs -/
import Derived.Test.YtkidgeeedigkhaaZMade
namespace Go.Proofs.Ytkidgeeedigkhaa
open Go.RowKit

/-- Both cells of a block stand behind what is above it. -/
theorem ret_store {fn : Func} {t : Tmp} (h : fn.results = #[.cell t 24]) (tmps : Array Value) (w : World) (g : Nat) (neg neg' : Bool) (v v' : Value) (hz : Zb w g neg' v') (hp : tmps.getD t undef = .pointer (some ⟨g, 0, none⟩)) :
    (results fn tmps).run Try.prog ((w.setCell ⟨g, 0, none⟩ (.bool neg)).setCell ⟨g, 1, none⟩ v) = .ok (.agg #[.bool neg, v]) ((w.setCell ⟨g, 0, none⟩ (.bool neg)).setCell ⟨g, 1, none⟩ v) :=
  ret_zb h tmps _ g neg v (hz.set_ neg v) hp

theorem res1 {w w2 : World} (hB : Below (w.alloc (.cells #[.bool false, .slice none 0 0] 24)).heap.size (w.alloc (.cells #[.bool false, .slice none 0 0] 24)) w2) :
    Zb w2 w.heap.size false (.slice none 0 0) ∧ Below w.heap.size w w2 :=
  ⟨(Zb.new w _ _).below hB (by simp), below_step ((Below.refl _ _).alloc (Nat.le_refl _) _) hB⟩
theorem res2 {w w2 : World} {X : Obj} (hB : Below ((w.alloc X).alloc (.cells #[.bool false, .slice none 0 0] 24)).heap.size ((w.alloc X).alloc (.cells #[.bool false, .slice none 0 0] 24)) w2) :
    Zb w2 (w.heap.size + 1) false (.slice none 0 0) ∧ Below w.heap.size w w2 := by
  obtain ⟨h1, h2⟩ := res1 hB
  rw [show (w.alloc X).heap.size = w.heap.size + 1 by simp] at h1
  exact ⟨h1, below_step ((Below.refl _ _).alloc (Nat.le_refl _) _) h2⟩
theorem res3 {w w2 : World} {X Y : Obj} (hB : Below (((w.alloc X).alloc Y).alloc (.cells #[.bool false, .slice none 0 0] 24)).heap.size (((w.alloc X).alloc Y).alloc (.cells #[.bool false, .slice none 0 0] 24)) w2) :
    Zb w2 (w.heap.size + 2) false (.slice none 0 0) ∧ Below w.heap.size w w2 := by
  obtain ⟨h1, h2⟩ := res2 hB
  rw [show (w.alloc X).heap.size = w.heap.size + 1 by simp] at h1
  exact ⟨h1, below_step ((Below.refl _ _).alloc (Nat.le_refl _) _) h2⟩
theorem RetZ.store {w w2 : World} {b g c : Nat} {z : Int} {A : Option Addr} (hO : Own w2 b A (digs z.natAbs).length c (digs z.natAbs)) (hB : Below w.heap.size w w2) (h1 : w.heap.size ≤ g) (h2 : g < b) :
    RetZ z w (.returned (.agg #[.bool (decide (z < 0)), .slice A (digs z.natAbs).length c])) ((w2.setCell ⟨g, 0, none⟩ (.bool (decide (z < 0)))).setCell ⟨g, 1, none⟩ (.slice A (digs z.natAbs).length c)) :=
  ⟨A, c, rfl, ((hO.setLow h2 0 _).setLow h2 1 _).base (by omega), below_set2 hB h1 _ _⟩
theorem size2 (w : World) (X Y : Obj) : ((w.alloc X).alloc Y).heap.size = w.heap.size + 2 := by simp
theorem size3 (w : World) (X Y Z : Obj) : (((w.alloc X).alloc Y).alloc Z).heap.size = w.heap.size + 3 := by simp

set_option maxHeartbeats 1000000 in
set_option maxRecDepth 8000 in
theorem form_calls (w : World) (neg : Bool) (A : Option Addr) (n c : Nat) (l : List Int) (h : Sl w A n c l) :
    Calls Try.prog 15 #[.agg #[.bool neg, .slice A n c]] w (RetZ (zof neg (val l)) w) := by
  go_enter Try.func15, Try.ntmps15
  go_wp2_with fail
  refine (made_calls _ neg A n c l ((h.alloc _).alloc _)).mono ?_
  rintro e w2 ⟨A2, c2, rfl, hO, hB⟩
  obtain ⟨hZ, hB2⟩ := res2 hB
  have hf := hZ.frozen
  have h0 := hZ.cell0
  have h1 := hZ.cell1
  rw [size2] at hO
  clear hB
  go_wp2
  refine bodyPost_ret (ret_store rfl _ _ _ _ _ _ _ hZ rfl) rfl ?_
  exact RetZ.store hO hB2 (by omega) (by omega)
set_option maxHeartbeats 1000000 in
set_option maxRecDepth 8000 in
theorem neg_calls (w : World) (neg : Bool) (A : Option Addr) (n c : Nat) (l : List Int) (h : Sl w A n c l) :
    Calls Try.prog 44 #[.agg #[.bool neg, .slice A n c]] w (RetZ (zof (!neg) (val l)) w) := by
  go_enter Try.func44, Try.ntmps44
  go_wp2_with fail
  refine (made_calls _ (!neg) A n c l ((h.alloc _).alloc _)).mono ?_
  rintro e w2 ⟨A2, c2, rfl, hO, hB⟩
  obtain ⟨hZ, hB2⟩ := res2 hB
  have hf := hZ.frozen
  have h0 := hZ.cell0
  have h1 := hZ.cell1
  rw [size2] at hO
  clear hB
  go_wp2
  refine bodyPost_ret (ret_store rfl _ _ _ _ _ _ _ hZ rfl) rfl ?_
  exact RetZ.store hO hB2 (by omega) (by omega)
set_option maxHeartbeats 1000000 in
set_option maxRecDepth 8000 in
theorem abs_calls (w : World) (neg : Bool) (A : Option Addr) (n c : Nat) (l : List Int) (h : Sl w A n c l) :
    Calls Try.prog 41 #[.agg #[.bool neg, .slice A n c]] w (RetZ (zof false (val l)) w) := by
  go_enter Try.func41, Try.ntmps41
  go_wp2_with fail
  refine (made_calls _ false A n c l ((h.alloc _).alloc _)).mono ?_
  rintro e w2 ⟨A2, c2, rfl, hO, hB⟩
  obtain ⟨hZ, hB2⟩ := res2 hB
  have hf := hZ.frozen
  have h0 := hZ.cell0
  have h1 := hZ.cell1
  rw [size2] at hO
  clear hB
  go_wp2
  refine bodyPost_ret (ret_store rfl _ _ _ _ _ _ _ hZ rfl) rfl ?_
  exact RetZ.store hO hB2 (by omega) (by omega)
end Go.Proofs.Ytkidgeeedigkhaa
