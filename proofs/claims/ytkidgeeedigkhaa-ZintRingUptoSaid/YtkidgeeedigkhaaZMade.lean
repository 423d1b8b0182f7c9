/- zint.made: a whole number in its one form. -/
import Derived.Test.YtkidgeeedigkhaaCmp
import Derived.Laws.CopyOwn
namespace Go.Proofs.Ytkidgeeedigkhaa
open Go.RowKit

/-- Hands back the whole number z in its one form, its limbs in memory of its own. -/
def RetZ (z : Int) (w : World) (e : Ending) (w' : World) : Prop := ∃ A c, e = .returned (.agg #[.bool (decide (z < 0)), .slice A (digs z.natAbs).length c]) ∧ Own w' w.heap.size A (digs z.natAbs).length c (digs z.natAbs) ∧ Below w.heap.size w w'
/-- The whole number of a sign and a magnitude. -/
def zof (neg : Bool) (N : Nat) : Int := if neg then -(N : Int) else N
theorem zof_abs (neg : Bool) (N : Nat) : (zof neg N).natAbs = N := by unfold zof; split <;> omega
theorem zof_neg {neg : Bool} {N : Nat} (h : 0 < N) : decide (zof neg N < 0) = neg := by
  unfold zof
  cases neg <;> simp <;> omega

/-- 'copy' into a row of noughts of the call's own, in a walk. -/
theorem copy_u32 (w : World) {ops : Array Oper} {rest : List Oper} {o : Oper} {a : Act} {Q : Exit → Act → World → Prop} (hgd : o.guard = none) (d s : Operand)
    (ho : o.op = .call { callee := .builtin .copy, args := #[d, s], argTypes := #[22, 22] }) (base g c m : Nat) (l0 : List Int) (A' : Option Addr) (n' c' : Nat) (l : List Int)
    (hd : a.eval d = .slice (some ⟨g, 0, none⟩) m c) (hs : a.eval s = .slice A' n' c') (hR : Row w base g c m l0) (hS : Sl w A' n' c' l) (hm0 : 0 < m) (hm : m ≤ n')
    (h : ∀ w', Row w' base g c m (l.take m) → Below base w w' → wpList Try.prog ops Q rest (a.put o.dst (goInt m)) w') :
    wpList Try.prog ops Q (o :: rest) a w := by
  obtain ⟨b, off, rfl, hlt, hc⟩ := hS.cells (by omega)
  have hlen := hS.len
  rcases hR.own.2 with ⟨h', h0⟩ | ⟨g', cap', cur, h', hb, hh, hn, hcap, hsz, ht⟩
  · injection h' with h'; cases h'
  · injection h' with hA _ hc'
    injection hA with hA
    injection hA with hA
    subst hA hc'
    have hcs : (nums (l.take m)).length = m := by rw [nums_length, List.length_take]; omega
    refine wpList_copy_splice hgd d s 22 22 ho 62 Try.underlying22 (by kernel_rfl) (some ⟨g, 0, none⟩) (some ⟨b, off, none⟩) m c n' c' hd hs g 0 cur.toList 62 (by simpa using hh) (nums (l.take m)) (by rw [hcs]; exact (Nat.min_eq_right hm).symm) ?_ ?_ (nums_oneCell _) base w (Below.refl _ _) hb ?_
    · intro _
      refine ⟨rfl, ⟨b, off, none⟩, rfl, fun j v hv => ?_⟩
      have hj : j < m := by have := (List.getElem?_eq_some_iff.1 hv).1; omega
      rw [nums_getElem? _ j (by rw [List.length_take]; omega)] at hv
      rw [addr_add, ← hv, hc j (by omega), List.getD_eq_getElem?_getD, List.getD_eq_getElem?_getD, List.getElem?_take, if_pos hj]
    · rw [hcs, Array.length_toList]; omega
    · intro w' hw hB
      rw [hcs]
      refine h w' ⟨hS.lim.take m, by rw [List.length_take]; omega, hR.small, by rw [nums_length, List.length_take]; omega, .inr ⟨g, c, _, rfl, hb, hw.out, hn, hcap, ?_, ?_⟩⟩ hB
      · simp only [List.size_toArray]
        rw [length_splice _ _ _ (by rw [hcs, Array.length_toList]; omega), Array.length_toList]; omega
      · simp [splice, hcs]

/-- A block that holds one whole number. -/
def Zb (w : World) (g : Nat) (neg : Bool) (v : Value) : Prop := w.heap[g]? = some (.cells #[.bool neg, v] 24 (0, 0))
theorem Zb.new (w : World) (neg : Bool) (v : Value) : Zb (w.alloc (.cells #[.bool neg, v] 24)) w.heap.size neg v := heap_alloc_new w _
theorem Zb.below {B : Nat} {w w' : World} {g : Nat} {neg : Bool} {v : Value} (h : Zb w g neg v) (hb : Below B w w') (hg : g < B) : Zb w' g neg v := (hb.block g hg).trans h
theorem Zb.drawn {w w' : World} {g : Nat} {neg : Bool} {v : Value} (h : Zb w g neg v) (hd : ∃ k, w' = w.drewN k) : Zb w' g neg v := by
  obtain ⟨k, rfl⟩ := hd
  exact h
theorem Zb.cell0 {w : World} {g : Nat} {neg : Bool} {v : Value} (h : Zb w g neg v) : w.cell? ⟨g, 0, none⟩ = some (.bool neg) := cell_of_row w g 0 _ 24 (0, 0) h
theorem Zb.cell1 {w : World} {g : Nat} {neg : Bool} {v : Value} (h : Zb w g neg v) : w.cell? ⟨g, 1, none⟩ = some v := cell_of_row w g 1 _ 24 (0, 0) h
theorem Zb.frozen {w : World} {g : Nat} {neg : Bool} {v : Value} (h : Zb w g neg v) (i : Nat) : w.frozen? ⟨g, i, none⟩ = false := by
  unfold Zb at h
  simp [World.frozen?, h]
theorem Zb.lt {w : World} {g : Nat} {neg : Bool} {v : Value} (h : Zb w g neg v) : g < w.heap.size := by
  rcases Nat.lt_or_ge g w.heap.size with hlt | hge
  · exact hlt
  · unfold Zb at h; rw [Array.getElem?_eq_none hge] at h; cases h
theorem Zb.set_ {w : World} {g : Nat} {neg : Bool} {v : Value} (h : Zb w g neg v) (neg' : Bool) (v' : Value) : Zb ((w.setCell ⟨g, 0, none⟩ (.bool neg')).setCell ⟨g, 1, none⟩ v') g neg' v' := by
  unfold Zb at h ⊢
  simp [World.setCell, Array.getElem?_modify, h]
theorem Zb.far {w : World} {g : Nat} {neg : Bool} {v : Value} (h : Zb w g neg v) {p : Addr} (hp : g ≠ p.block) (u : Value) : Zb (w.setCell p u) g neg v := (Below.heap_setCell w p u g hp).trans h
theorem below_set2 {B : Nat} {w w1 : World} (h : Below B w w1) {g : Nat} (hg : B ≤ g) (u v : Value) : Below B w ((w1.setCell ⟨g, 0, none⟩ u).setCell ⟨g, 1, none⟩ v) := (h.setCell (p := ⟨g, 0, none⟩) hg u).setCell (p := ⟨g, 1, none⟩) hg v
/-- A result that lives in a block. -/
theorem ret_zb {fn : Func} {t : Tmp} (h : fn.results = #[.cell t 24]) (tmps : Array Value) (w : World) (g : Nat) (neg : Bool) (v : Value) (hz : Zb w g neg v) (hp : tmps.getD t undef = .pointer (some ⟨g, 0, none⟩)) :
    (results fn tmps).run Try.prog w = .ok (.agg #[.bool neg, v]) w := by
  have h0 := hz.cell0
  have h1 := hz.cell1
  have hp2 : tmps[t]?.getD undef = .pointer (some ⟨g, 0, none⟩) := by rw [← hp]; simp
  simp [results, h, hp2, go_sem, h0, h1]

set_option maxHeartbeats 1000000 in
set_option maxRecDepth 8000 in
theorem made_calls (w : World) (neg : Bool) (A : Option Addr) (n c : Nat) (l : List Int) (h : Sl w A n c l) :
    Calls Try.prog 53 #[.bool neg, .slice A n c] w (RetZ (zof neg (val l)) w) := by
  have hle := h.le
  have hsm := h.small
  have hlen := h.len
  have hsz1 : (w.alloc (.cells #[.bool false, .slice none 0 0] 24)).heap.size = w.heap.size + 1 := by simp
  replace hsz1 := Lib.hid hsz1
  go_enter Try.func53, Try.ntmps53
  go_wp2
  go_loop [5] (fun s => ∃ k : Nat, k ≤ n ∧ Hid (val (l.take k) = val l) ∧ s = .int .i64 k) (fun s => (intOf s).toNat)
  case atStart => exact ⟨n, Nat.le_refl _, by unfold Hid; rw [← hlen, List.take_length], rfl⟩
  case round =>
    obtain ⟨k, hk, hv, rfl⟩ := hrel
    by_cases h0 : k = 0
    · subst h0
      have e0 := Lib.hid (show val l = 0 by rw [← hv.out]; rfl)
      clear hv
      go_wp2
      refine bodyPost_ret (v := .agg #[.bool false, .slice none 0 0]) (by simp [results, Try.results53, go_sem]) rfl ?_
      rw [e0.out]
      refine ⟨none, 0, ?_, ?_, (Below.refl _ _).alloc (Nat.le_refl _) _⟩
      · rw [zof_abs, digs_zero]; cases neg <;> rfl
      · rw [zof_abs, digs_zero]; exact Own.nil _ _
    · obtain ⟨b, off, rfl, hc⟩ := (h.alloc (.cells #[.bool false, .slice none 0 0] 24)).at_ (i := k - 1) (by omega)
      have hp : 0 < k := by omega
      have hz0 : ((k : Int) == 0) = false := beq_eq_false_iff_ne.2 (by omega)
      clear h0
      by_cases hz : l.getD (k - 1) 0 = 0
      · have e1 := val_take_pred hp (by omega) hz
        have E1 := Lib.hid e1
        clear e1
        rw [hz] at hc
        clear hz
        go_wp2
        go_round
        case rel => exact ⟨k - 1, by omega, by unfold Hid; rw [E1.out]; exact hv, by go_num⟩
        case measure => simp [intOf]; omega
      · have e1 := Lib.hid (len_of_top h.lim hp (by omega) hv.out hz)
        generalize l.getD (k - 1) 0 = x at hc hz
        have hz' : (x == 0) = false := by simpa using hz
        clear hz
        go_wp2_with (first
          | (at_make; refine make_u32 _ rfl _ _ rfl k _ _ _ _ rfl rfl ?_ ?_ ?_ ?_; (iterate 3 omega); intro w1 hR hB; rw [hsz1.out] at hR)
          | (refine copy_u32 _ rfl _ _ rfl _ _ _ k _ _ _ _ _ rfl rfl hR ((h.alloc _).below hB) hp hk ?_; intro w2 hR2 hB2; have hZ := ((Zb.new w false (.slice none 0 0)).below hB (by rw [hsz1.out]; omega)).below hB2 (by omega); have hZf := hZ.frozen; have hZ0 := hZ.cell0; have hZ1 := hZ.cell1))
        have hZ3 := hZ.set_ neg (.slice (some ⟨w.heap.size + 1, 0, none⟩) k k)
        refine bodyPost_ret (ret_zb rfl _ _ _ _ _ hZ3 rfl) rfl ?_
        have hvp : 0 < val l := by
          rcases Nat.eq_zero_or_pos (val l) with h0 | h0
          · have := e1.out; rw [h0, digs_zero] at this; simp at this; omega
          · exact h0
        have hst := strip_take h.lim
        rw [e1.out] at hst
        rw [hst] at hR2
        have hO := ((hR2.setOther (g' := w.heap.size) (by omega) 0 (.bool neg)).setOther (g' := w.heap.size) (by omega) 1 (.slice (some ⟨w.heap.size + 1, 0, none⟩) k k)).toOwn
        refine ⟨some ⟨w.heap.size + 1, 0, none⟩, k, ?_, ?_, ?_⟩
        · rw [zof_abs, zof_neg hvp, e1.out]
        · rw [zof_abs, e1.out]; exact hO.base (by omega)
        · exact below_set2 ((below_step ((Below.refl _ _).alloc (Nat.le_refl _) _) hB).trans (hB2.mono (by omega))) (Nat.le_refl _) _ _
end Go.Proofs.Ytkidgeeedigkhaa
