
/- zint.made: a whole number in its one form. zint.Form, zint.Neg, zint.Abs zint.Mul zint.Add zint.Sub law02.eq: equal numbers in their one form. zint.Sign, zint.Of, zint.Text, law02.alive law02.alive The contracts of zint by a value that stands for a number: Az (any form), Cz (the one form). Whole numbers: floors and rests. -/
import Derived.Test.YtdmahjbjlppeaaaA2
import Derived.Laws.CopyOwn
namespace Go.Proofs.Ytdmahjbjlppeaaa
open Go.RowKit

/-- Hands back the whole number z in its one form, its limbs in memory of its own. -/
def RetZ (z : Int) (w : World) (e : Ending) (w' : World) : Prop := ∃ A c, e = .returned (.agg #[.bool (decide (z < 0)), .slice A (digs z.natAbs).length c]) ∧ Own w' w.heap.size A (digs z.natAbs).length c (digs z.natAbs) ∧ Below w.heap.size w w'
/-- The whole number of a sign and a magnitude. -/
def zof (neg : Bool) (N : Nat) : Int := if neg then -(N : Int) else N
theorem zof_abs (neg : Bool) (N : Nat) : (zof neg N).natAbs = N := by unfold zof; split <;> omega
theorem zof_neg {neg : Bool} {N : Nat} (h : 0 < N) : decide (zof neg N < 0) = neg := by
  unfold zof
  cases neg <;> simp <;> omega

/-- 'copy' into a row of noughts of the call's own, in a walk. -/
theorem copy_u32 (w : World) {ops : Array Oper} {rest : List Oper} {o : Oper} {a : Act} {Q : Exit → Act → World → Prop} (hgd : o.guard = none) (d s : Operand)
    (ho : o.op = .call { callee := .builtin .copy, args := #[d, s], argTypes := #[22, 22] }) (base g c m : Nat) (l0 : List Int) (A' : Option Addr) (n' c' : Nat) (l : List Int)
    (hd : a.eval d = .slice (some ⟨g, 0, none⟩) m c) (hs : a.eval s = .slice A' n' c') (hR : Row w base g c m l0) (hS : Sl w A' n' c' l) (hm0 : 0 < m) (hm : m ≤ n')
    (h : ∀ w', Row w' base g c m (l.take m) → Below base w w' → wpList Try.prog ops Q rest (a.put o.dst (goInt m)) w') :
    wpList Try.prog ops Q (o :: rest) a w := by
  obtain ⟨b, off, rfl, hlt, hc⟩ := hS.cells (by omega)
  have hlen := hS.len
  rcases hR.own.2 with ⟨h', h0⟩ | ⟨g', cap', cur, h', hb, hh, hn, hcap, hsz, ht⟩
  · injection h' with h'; cases h'
  · injection h' with hA _ hc'
    injection hA with hA
    injection hA with hA
    subst hA hc'
    have hcs : (nums (l.take m)).length = m := by rw [nums_length, List.length_take]; omega
    refine wpList_copy_splice hgd d s 22 22 ho 68 Try.underlying22 (by kernel_rfl) (some ⟨g, 0, none⟩) (some ⟨b, off, none⟩) m c n' c' hd hs g 0 cur.toList 68 (by simpa using hh) (nums (l.take m)) (by rw [hcs]; exact (Nat.min_eq_right hm).symm) ?_ ?_ (nums_oneCell _) base w (Below.refl _ _) hb ?_
    · intro _
      refine ⟨rfl, ⟨b, off, none⟩, rfl, fun j v hv => ?_⟩
      have hj : j < m := by have := (List.getElem?_eq_some_iff.1 hv).1; omega
      rw [nums_getElem? _ j (by rw [List.length_take]; omega)] at hv
      rw [addr_add, ← hv, hc j (by omega), List.getD_eq_getElem?_getD, List.getD_eq_getElem?_getD, List.getElem?_take, if_pos hj]
    · rw [hcs, Array.length_toList]; omega
    · intro w' hw hB
      rw [hcs]
      refine h w' ⟨hS.lim.take m, by rw [List.length_take]; omega, hR.small, by rw [nums_length, List.length_take]; omega, .inr ⟨g, c, _, rfl, hb, hw.out, hn, hcap, ?_, ?_⟩⟩ hB
      · simp only [List.size_toArray]
        rw [length_splice _ _ _ (by rw [hcs, Array.length_toList]; omega), Array.length_toList]; omega
      · simp [splice, hcs]

/-- A block that holds one whole number. -/
def Zb (w : World) (g : Nat) (neg : Bool) (v : Value) : Prop := w.heap[g]? = some (.cells #[.bool neg, v] 24 (0, 0))
theorem Zb.new (w : World) (neg : Bool) (v : Value) : Zb (w.alloc (.cells #[.bool neg, v] 24)) w.heap.size neg v := heap_alloc_new w _
theorem Zb.below {B : Nat} {w w' : World} {g : Nat} {neg : Bool} {v : Value} (h : Zb w g neg v) (hb : Below B w w') (hg : g < B) : Zb w' g neg v := (hb.block g hg).trans h
theorem Zb.drawn {w w' : World} {g : Nat} {neg : Bool} {v : Value} (h : Zb w g neg v) (hd : ∃ k, w' = w.drewN k) : Zb w' g neg v := by
  obtain ⟨k, rfl⟩ := hd
  exact h
theorem Zb.cell0 {w : World} {g : Nat} {neg : Bool} {v : Value} (h : Zb w g neg v) : w.cell? ⟨g, 0, none⟩ = some (.bool neg) := cell_of_row w g 0 _ 24 (0, 0) h
theorem Zb.cell1 {w : World} {g : Nat} {neg : Bool} {v : Value} (h : Zb w g neg v) : w.cell? ⟨g, 1, none⟩ = some v := cell_of_row w g 1 _ 24 (0, 0) h
theorem Zb.frozen {w : World} {g : Nat} {neg : Bool} {v : Value} (h : Zb w g neg v) (i : Nat) : w.frozen? ⟨g, i, none⟩ = false := by
  unfold Zb at h
  simp [World.frozen?, h]
theorem Zb.lt {w : World} {g : Nat} {neg : Bool} {v : Value} (h : Zb w g neg v) : g < w.heap.size := by
  rcases Nat.lt_or_ge g w.heap.size with hlt | hge
  · exact hlt
  · unfold Zb at h; rw [Array.getElem?_eq_none hge] at h; cases h
theorem Zb.set_ {w : World} {g : Nat} {neg : Bool} {v : Value} (h : Zb w g neg v) (neg' : Bool) (v' : Value) : Zb ((w.setCell ⟨g, 0, none⟩ (.bool neg')).setCell ⟨g, 1, none⟩ v') g neg' v' := by
  unfold Zb at h ⊢
  simp [World.setCell, Array.getElem?_modify, h]
theorem Zb.far {w : World} {g : Nat} {neg : Bool} {v : Value} (h : Zb w g neg v) {p : Addr} (hp : g ≠ p.block) (u : Value) : Zb (w.setCell p u) g neg v := (Below.heap_setCell w p u g hp).trans h
theorem below_set2 {B : Nat} {w w1 : World} (h : Below B w w1) {g : Nat} (hg : B ≤ g) (u v : Value) : Below B w ((w1.setCell ⟨g, 0, none⟩ u).setCell ⟨g, 1, none⟩ v) := (h.setCell (p := ⟨g, 0, none⟩) hg u).setCell (p := ⟨g, 1, none⟩) hg v
/-- A result that lives in a block. -/
theorem ret_zb {fn : Func} {t : Tmp} (h : fn.results = #[.cell t 24]) (tmps : Array Value) (w : World) (g : Nat) (neg : Bool) (v : Value) (hz : Zb w g neg v) (hp : tmps.getD t undef = .pointer (some ⟨g, 0, none⟩)) :
    (results fn tmps).run Try.prog w = .ok (.agg #[.bool neg, v]) w := by
  have h0 := hz.cell0
  have h1 := hz.cell1
  have hp2 : tmps[t]?.getD undef = .pointer (some ⟨g, 0, none⟩) := by rw [← hp]; simp
  simp [results, h, hp2, go_sem, h0, h1]

set_option maxHeartbeats 1000000 in
set_option maxRecDepth 8000 in
theorem made_calls (w : World) (neg : Bool) (A : Option Addr) (n c : Nat) (l : List Int) (h : Sl w A n c l) :
    Calls Try.prog 76 #[.bool neg, .slice A n c] w (RetZ (zof neg (val l)) w) := by
  have hle := h.le
  have hsm := h.small
  have hlen := h.len
  have hsz1 : (w.alloc (.cells #[.bool false, .slice none 0 0] 24)).heap.size = w.heap.size + 1 := by simp
  replace hsz1 := Lib.hid hsz1
  go_enter Try.func76, Try.ntmps76
  go_wp2
  go_loop [5] (fun s => ∃ k : Nat, k ≤ n ∧ Hid (val (l.take k) = val l) ∧ s = .int .i64 k) (fun s => (intOf s).toNat)
  case atStart => exact ⟨n, Nat.le_refl _, by unfold Hid; rw [← hlen, List.take_length], rfl⟩
  case round =>
    obtain ⟨k, hk, hv, rfl⟩ := hrel
    by_cases h0 : k = 0
    · subst h0
      have e0 := Lib.hid (show val l = 0 by rw [← hv.out]; rfl)
      clear hv
      go_wp2
      refine bodyPost_ret (v := .agg #[.bool false, .slice none 0 0]) (by simp [results, Try.results76, go_sem]) rfl ?_
      rw [e0.out]
      refine ⟨none, 0, ?_, ?_, (Below.refl _ _).alloc (Nat.le_refl _) _⟩
      · rw [zof_abs, digs_zero]; cases neg <;> rfl
      · rw [zof_abs, digs_zero]; exact Own.nil _ _
    · obtain ⟨b, off, rfl, hc⟩ := (h.alloc (.cells #[.bool false, .slice none 0 0] 24)).at_ (i := k - 1) (by omega)
      have hp : 0 < k := by omega
      have hz0 : ((k : Int) == 0) = false := beq_eq_false_iff_ne.2 (by omega)
      clear h0
      by_cases hz : l.getD (k - 1) 0 = 0
      · have e1 := val_take_pred hp (by omega) hz
        have E1 := Lib.hid e1
        clear e1
        rw [hz] at hc
        clear hz
        go_wp2
        go_round
        case rel => exact ⟨k - 1, by omega, by unfold Hid; rw [E1.out]; exact hv, by go_num⟩
        case measure => simp [intOf]; omega
      · have e1 := Lib.hid (len_of_top h.lim hp (by omega) hv.out hz)
        generalize l.getD (k - 1) 0 = x at hc hz
        have hz' : (x == 0) = false := by simpa using hz
        clear hz
        go_wp2_with (first
          | (at_make; refine make_u32 _ rfl _ _ rfl k _ _ _ _ rfl rfl ?_ ?_ ?_ ?_; (iterate 3 omega); intro w1 hR hB; rw [hsz1.out] at hR)
          | (refine copy_u32 _ rfl _ _ rfl _ _ _ k _ _ _ _ _ rfl rfl hR ((h.alloc _).below hB) hp hk ?_; intro w2 hR2 hB2; have hZ := ((Zb.new w false (.slice none 0 0)).below hB (by rw [hsz1.out]; omega)).below hB2 (by omega); have hZf := hZ.frozen; have hZ0 := hZ.cell0; have hZ1 := hZ.cell1))
        have hZ3 := hZ.set_ neg (.slice (some ⟨w.heap.size + 1, 0, none⟩) k k)
        refine bodyPost_ret (ret_zb rfl _ _ _ _ _ hZ3 rfl) rfl ?_
        have hvp : 0 < val l := by
          rcases Nat.eq_zero_or_pos (val l) with h0 | h0
          · have := e1.out; rw [h0, digs_zero] at this; simp at this; omega
          · exact h0
        have hst := strip_take h.lim
        rw [e1.out] at hst
        rw [hst] at hR2
        have hO := ((hR2.setOther (g' := w.heap.size) (by omega) 0 (.bool neg)).setOther (g' := w.heap.size) (by omega) 1 (.slice (some ⟨w.heap.size + 1, 0, none⟩) k k)).toOwn
        refine ⟨some ⟨w.heap.size + 1, 0, none⟩, k, ?_, ?_, ?_⟩
        · rw [zof_abs, zof_neg hvp, e1.out]
        · rw [zof_abs, e1.out]; exact hO.base (by omega)
        · exact below_set2 ((below_step ((Below.refl _ _).alloc (Nat.le_refl _) _) hB).trans (hB2.mono (by omega))) (Nat.le_refl _) _ _
end Go.Proofs.Ytdmahjbjlppeaaa

namespace Go.Proofs.Ytdmahjbjlppeaaa
open Go.RowKit

/-- Both cells of a block stand behind what is above it. -/
theorem ret_store {fn : Func} {t : Tmp} (h : fn.results = #[.cell t 24]) (tmps : Array Value) (w : World) (g : Nat) (neg neg' : Bool) (v v' : Value) (hz : Zb w g neg' v') (hp : tmps.getD t undef = .pointer (some ⟨g, 0, none⟩)) :
    (results fn tmps).run Try.prog ((w.setCell ⟨g, 0, none⟩ (.bool neg)).setCell ⟨g, 1, none⟩ v) = .ok (.agg #[.bool neg, v]) ((w.setCell ⟨g, 0, none⟩ (.bool neg)).setCell ⟨g, 1, none⟩ v) :=
  ret_zb h tmps _ g neg v (hz.set_ neg v) hp

theorem res1 {w w2 : World} (hB : Below (w.alloc (.cells #[.bool false, .slice none 0 0] 24)).heap.size (w.alloc (.cells #[.bool false, .slice none 0 0] 24)) w2) :
    Zb w2 w.heap.size false (.slice none 0 0) ∧ Below w.heap.size w w2 :=
  ⟨(Zb.new w _ _).below hB (by simp), below_step ((Below.refl _ _).alloc (Nat.le_refl _) _) hB⟩
theorem res2 {w w2 : World} {X : Obj} (hB : Below ((w.alloc X).alloc (.cells #[.bool false, .slice none 0 0] 24)).heap.size ((w.alloc X).alloc (.cells #[.bool false, .slice none 0 0] 24)) w2) :
    Zb w2 (w.heap.size + 1) false (.slice none 0 0) ∧ Below w.heap.size w w2 := by
  obtain ⟨h1, h2⟩ := res1 hB
  rw [show (w.alloc X).heap.size = w.heap.size + 1 by simp] at h1
  exact ⟨h1, below_step ((Below.refl _ _).alloc (Nat.le_refl _) _) h2⟩
theorem res3 {w w2 : World} {X Y : Obj} (hB : Below (((w.alloc X).alloc Y).alloc (.cells #[.bool false, .slice none 0 0] 24)).heap.size (((w.alloc X).alloc Y).alloc (.cells #[.bool false, .slice none 0 0] 24)) w2) :
    Zb w2 (w.heap.size + 2) false (.slice none 0 0) ∧ Below w.heap.size w w2 := by
  obtain ⟨h1, h2⟩ := res2 hB
  rw [show (w.alloc X).heap.size = w.heap.size + 1 by simp] at h1
  exact ⟨h1, below_step ((Below.refl _ _).alloc (Nat.le_refl _) _) h2⟩
theorem RetZ.store {w w2 : World} {b g c : Nat} {z : Int} {A : Option Addr} (hO : Own w2 b A (digs z.natAbs).length c (digs z.natAbs)) (hB : Below w.heap.size w w2) (h1 : w.heap.size ≤ g) (h2 : g < b) :
    RetZ z w (.returned (.agg #[.bool (decide (z < 0)), .slice A (digs z.natAbs).length c])) ((w2.setCell ⟨g, 0, none⟩ (.bool (decide (z < 0)))).setCell ⟨g, 1, none⟩ (.slice A (digs z.natAbs).length c)) :=
  ⟨A, c, rfl, ((hO.setLow h2 0 _).setLow h2 1 _).base (by omega), below_set2 hB h1 _ _⟩
theorem size2 (w : World) (X Y : Obj) : ((w.alloc X).alloc Y).heap.size = w.heap.size + 2 := by simp
theorem size3 (w : World) (X Y Z : Obj) : (((w.alloc X).alloc Y).alloc Z).heap.size = w.heap.size + 3 := by simp

set_option maxHeartbeats 1000000 in
set_option maxRecDepth 8000 in
theorem form_calls (w : World) (neg : Bool) (A : Option Addr) (n c : Nat) (l : List Int) (h : Sl w A n c l) :
    Calls Try.prog 51 #[.agg #[.bool neg, .slice A n c]] w (RetZ (zof neg (val l)) w) := by
  go_enter Try.func51, Try.ntmps51
  go_wp2_with fail
  refine (made_calls _ neg A n c l ((h.alloc _).alloc _)).mono ?_
  rintro e w2 ⟨A2, c2, rfl, hO, hB⟩
  obtain ⟨hZ, hB2⟩ := res2 hB
  have hf := hZ.frozen
  have h0 := hZ.cell0
  have h1 := hZ.cell1
  rw [size2] at hO
  clear hB
  go_wp2
  refine bodyPost_ret (ret_store rfl _ _ _ _ _ _ _ hZ rfl) rfl ?_
  exact RetZ.store hO hB2 (by omega) (by omega)
set_option maxHeartbeats 1000000 in
set_option maxRecDepth 8000 in
theorem neg_calls (w : World) (neg : Bool) (A : Option Addr) (n c : Nat) (l : List Int) (h : Sl w A n c l) :
    Calls Try.prog 78 #[.agg #[.bool neg, .slice A n c]] w (RetZ (zof (!neg) (val l)) w) := by
  go_enter Try.func78, Try.ntmps78
  go_wp2_with fail
  refine (made_calls _ (!neg) A n c l ((h.alloc _).alloc _)).mono ?_
  rintro e w2 ⟨A2, c2, rfl, hO, hB⟩
  obtain ⟨hZ, hB2⟩ := res2 hB
  have hf := hZ.frozen
  have h0 := hZ.cell0
  have h1 := hZ.cell1
  rw [size2] at hO
  clear hB
  go_wp2
  refine bodyPost_ret (ret_store rfl _ _ _ _ _ _ _ hZ rfl) rfl ?_
  exact RetZ.store hO hB2 (by omega) (by omega)
set_option maxHeartbeats 1000000 in
set_option maxRecDepth 8000 in
theorem abs_calls (w : World) (neg : Bool) (A : Option Addr) (n c : Nat) (l : List Int) (h : Sl w A n c l) :
    Calls Try.prog 67 #[.agg #[.bool neg, .slice A n c]] w (RetZ (zof false (val l)) w) := by
  go_enter Try.func67, Try.ntmps67
  go_wp2_with fail
  refine (made_calls _ false A n c l ((h.alloc _).alloc _)).mono ?_
  rintro e w2 ⟨A2, c2, rfl, hO, hB⟩
  obtain ⟨hZ, hB2⟩ := res2 hB
  have hf := hZ.frozen
  have h0 := hZ.cell0
  have h1 := hZ.cell1
  rw [size2] at hO
  clear hB
  go_wp2
  refine bodyPost_ret (ret_store rfl _ _ _ _ _ _ _ hZ rfl) rfl ?_
  exact RetZ.store hO hB2 (by omega) (by omega)
end Go.Proofs.Ytdmahjbjlppeaaa

namespace Go.Proofs.Ytdmahjbjlppeaaa
open Go.RowKit

theorem made_digs (w : World) (neg : Bool) (A : Option Addr) (c N : Nat) (h : Sl w A (digs N).length c (digs N)) : Calls Try.prog 76 #[.bool neg, .slice A (digs N).length c] w (RetZ (zof neg N) w) := by
  have := made_calls w neg A _ c _ h
  rwa [val_digs] at this

/-- Two numbers boxed, and a result's block: what the cells hold, in whatever world lies above. -/
def Two (w v : World) (na : Bool) (va : Value) (nb : Bool) (vb : Value) : Prop :=
  v.cell? ⟨w.heap.size, 0, none⟩ = some (.bool na) ∧ v.cell? ⟨w.heap.size, 1, none⟩ = some va ∧ v.cell? ⟨w.heap.size + 1, 0, none⟩ = some (.bool nb) ∧ v.cell? ⟨w.heap.size + 1, 1, none⟩ = some vb
def boxed (w : World) (na : Bool) (va : Value) (nb : Bool) (vb : Value) : World :=
  ((w.alloc (.cells #[.bool na, va] 24)).alloc (.cells #[.bool nb, vb] 24)).alloc (.cells #[.bool false, .slice none 0 0] 24)
theorem boxed_zb (w : World) (na : Bool) (va : Value) (nb : Bool) (vb : Value) : Zb (boxed w na va nb vb) w.heap.size na va ∧ Zb (boxed w na va nb vb) (w.heap.size + 1) nb vb ∧ Zb (boxed w na va nb vb) (w.heap.size + 2) false (.slice none 0 0) := by
  have a1 := Zb.new w na va
  have a2 := Zb.new (w.alloc (.cells #[.bool na, va] 24)) nb vb
  have a3 := Zb.new ((w.alloc (.cells #[.bool na, va] 24)).alloc (.cells #[.bool nb, vb] 24)) false (.slice none 0 0)
  rw [show (w.alloc (.cells #[.bool na, va] 24)).heap.size = w.heap.size + 1 by simp] at a2
  rw [size2] at a3
  exact ⟨(a1.below ((Below.refl _ _).alloc (Nat.le_refl _) _) (by simp)).below ((Below.refl _ _).alloc (Nat.le_refl _) _) (by rw [size2]; omega), a2.below ((Below.refl _ _).alloc (Nat.le_refl _) _) (by rw [size2]; omega), a3⟩
theorem Two.of {w v : World} {na nb : Bool} {va vb : Value} (h : Below (boxed w na va nb vb).heap.size (boxed w na va nb vb) v) : Two w v na va nb vb := by
  obtain ⟨a1, a2, _⟩ := boxed_zb w na va nb vb
  have e : (boxed w na va nb vb).heap.size = w.heap.size + 3 := size3 ..
  have b1 := a1.below h (by omega)
  have b2 := a2.below h (by omega)
  exact ⟨b1.cell0, b1.cell1, b2.cell0, b2.cell1⟩

theorem Two.store {w v : World} {na nb : Bool} {va vb : Value} (h : Below (boxed w na va nb vb).heap.size (boxed w na va nb vb) v) (x y : Value) : Two w ((v.setCell ⟨w.heap.size + 2, 0, none⟩ x).setCell ⟨w.heap.size + 2, 1, none⟩ y) na va nb vb := by
  obtain ⟨a1, a2, _⟩ := boxed_zb w na va nb vb
  have e : (boxed w na va nb vb).heap.size = w.heap.size + 3 := size3 ..
  have b1 := ((a1.below h (by omega)).far (p := ⟨w.heap.size + 2, 0, none⟩) (by simp) x).far (p := ⟨w.heap.size + 2, 1, none⟩) (by simp) y
  have b2 := ((a2.below h (by omega)).far (p := ⟨w.heap.size + 2, 0, none⟩) (by simp) x).far (p := ⟨w.heap.size + 2, 1, none⟩) (by simp) y
  exact ⟨b1.cell0, b1.cell1, b2.cell0, b2.cell1⟩

set_option maxHeartbeats 2000000 in
set_option maxRecDepth 8000 in
theorem zmul_calls (w : World) (na : Bool) (A : Option Addr) (n c : Nat) (la : List Int) (nb : Bool) (A' : Option Addr) (n' c' : Nat) (lb : List Int) (ha : Sl w A n c la) (hb : Sl w A' n' c' lb) (hs : n + n' ≤ 70368744177664) :
    Calls Try.prog 55 #[.agg #[.bool na, .slice A n c], .agg #[.bool nb, .slice A' n' c']] w (RetZ (zof (na != nb) (val la * val lb)) w) := by
  have hS0 : Two w (boxed w na (.slice A n c) nb (.slice A' n' c')) na (.slice A n c) nb (.slice A' n' c') := Two.of (Below.refl _ _)
  have hB0 : Below (boxed w na (.slice A n c) nb (.slice A' n' c')).heap.size (boxed w na (.slice A n c) nb (.slice A' n' c')) (boxed w na (.slice A n c) nb (.slice A' n' c')).drew := below_drawn (Below.refl _ _) ⟨1, rfl⟩
  unfold boxed at hS0 hB0
  replace hS0 := Lib.hid hS0
  replace hB0 := Lib.hid hB0
  go_enter Try.func55, Try.ntmps55
  go_wp2_with fail
  go_region_held3 (fun v => v.cell? ⟨w.heap.size, 0, none⟩ = some (.bool na) ∧ v.cell? ⟨w.heap.size, 1, none⟩ = some (.slice A n c) ∧ v.cell? ⟨w.heap.size + 1, 0, none⟩ = some (.bool nb) ∧ v.cell? ⟨w.heap.size + 1, 1, none⟩ = some (.slice A' n' c'))
    (first | exact hS0.out | exact hS8.out | exact hS9.out | exact Two.store hB9'.out _ _)
    (first
      | (go_at_call 91
         refine (mul_calls _ _ _ _ _ _ _ _ _ (((ha.alloc _).alloc _).alloc _).drew (((hb.alloc _).alloc _).alloc _).drew hs).mono ?_
         rintro e w8 ⟨A8, c8, rfl, hO8, hB8⟩
         have hB8' := Lib.hid (below_step hB0.out hB8)
         have hS8 := Lib.hid (Two.of hB8'.out))
      | (go_at_call 76
         refine (made_digs _ (na != nb) _ _ _ hO8.sl).mono ?_
         rintro e w9 ⟨A9, c9, rfl, hO9, hB9⟩
         have hB9' := Lib.hid (below_step hB8'.out hB9)
         have hS9 := Lib.hid (Two.of hB9'.out)
         obtain ⟨hZ, hBt⟩ := res3 hB9'.out
         have hf := hZ.frozen
         have hz0 := hZ.cell0
         have hz1 := hZ.cell1))
  have hlt : w.heap.size + 2 < w8.heap.size := by have := hB8'.out.size; rw [size3] at this; omega
  clear hS0 hB0 hS8 hS9 hB8' hB9' hB8 hB9
  go_wp2
  refine bodyPost_ret (ret_store rfl _ _ _ _ _ _ _ hZ rfl) rfl ?_
  exact RetZ.store hO9 hBt (by omega) hlt
end Go.Proofs.Ytdmahjbjlppeaaa

namespace Go.Proofs.Ytdmahjbjlppeaaa
open Go.RowKit

theorem zof_same (neg : Bool) (a b : Nat) : zof neg a + zof neg b = zof neg (a + b) := by unfold zof; split <;> omega
theorem zof_other {na nb : Bool} (h : na ≠ nb) {a b : Nat} (hab : b ≤ a) : zof na a + zof nb b = zof na (a - b) := by
  unfold zof
  cases na <;> cases nb <;> simp at h ⊢ <;> omega

set_option maxHeartbeats 2000000 in
set_option maxRecDepth 8000 in
theorem zadd_same (w : World) (na : Bool) (A : Option Addr) (n c : Nat) (la : List Int) (A' : Option Addr) (n' c' : Nat) (lb : List Int) (ha : Sl w A n c la) (hb : Sl w A' n' c' lb) (hs : n < 70368744177664) (hs' : n' < 70368744177664) :
    Calls Try.prog 58 #[.agg #[.bool na, .slice A n c], .agg #[.bool na, .slice A' n' c']] w (RetZ (zof na (val la + val lb)) w) := by
  have hS0 : Two w (boxed w na (.slice A n c) na (.slice A' n' c')) na (.slice A n c) na (.slice A' n' c') := Two.of (Below.refl _ _)
  have hB0 : Below (boxed w na (.slice A n c) na (.slice A' n' c')).heap.size (boxed w na (.slice A n c) na (.slice A' n' c')) (boxed w na (.slice A n c) na (.slice A' n' c')).drew := below_drawn (Below.refl _ _) ⟨1, rfl⟩
  unfold boxed at hS0 hB0
  replace hS0 := Lib.hid hS0
  replace hB0 := Lib.hid hB0
  go_enter Try.func58, Try.ntmps58
  go_wp2_with fail
  go_region_held3 (fun v => v.cell? ⟨w.heap.size, 0, none⟩ = some (.bool na) ∧ v.cell? ⟨w.heap.size, 1, none⟩ = some (.slice A n c) ∧ v.cell? ⟨w.heap.size + 1, 0, none⟩ = some (.bool na) ∧ v.cell? ⟨w.heap.size + 1, 1, none⟩ = some (.slice A' n' c'))
    (first | exact hS0.out | exact hS8.out | exact hS9.out | exact Two.store hB9'.out _ _)
    (first
      | (go_at_call 92
         refine (add_calls _ _ _ _ _ _ _ _ _ (((ha.alloc _).alloc _).alloc _).drew (((hb.alloc _).alloc _).alloc _).drew hs hs' _ rfl).mono ?_
         rintro e w8 ⟨A8, c8, rfl, hO8, hB8⟩
         have hB8' := Lib.hid (below_step hB0.out hB8)
         have hS8 := Lib.hid (Two.of hB8'.out))
      | (go_at_call 76
         refine (made_digs _ na _ _ _ hO8.sl).mono ?_
         rintro e w9 ⟨A9, c9, rfl, hO9, hB9⟩
         have hB9' := Lib.hid (below_step hB8'.out hB9)
         have hS9 := Lib.hid (Two.of hB9'.out)
         obtain ⟨hZ, hBt⟩ := res3 hB9'.out
         have hf := hZ.frozen
         have hz0 := hZ.cell0
         have hz1 := hZ.cell1))
  have hlt : w.heap.size + 2 < w8.heap.size := by have := hB8'.out.size; rw [size3] at this; omega
  clear hS0 hB0 hS8 hS9 hB8' hB9' hB8 hB9
  go_wp2
  refine bodyPost_ret (ret_store rfl _ _ _ _ _ _ _ hZ rfl) rfl ?_
  exact RetZ.store hO9 hBt (by omega) hlt

set_option maxHeartbeats 2000000 in
set_option maxRecDepth 8000 in
theorem zadd_ge (w : World) (na nb : Bool) (A : Option Addr) (n c : Nat) (la : List Int) (A' : Option Addr) (n' c' : Nat) (lb : List Int) (ha : Sl w A n c la) (hb : Sl w A' n' c' lb) (hne : na ≠ nb) (hge : val lb ≤ val la) :
    Calls Try.prog 58 #[.agg #[.bool na, .slice A n c], .agg #[.bool nb, .slice A' n' c']] w (RetZ (zof na (val la - val lb)) w) := by
  have hnb : (na == nb) = false := beq_eq_false_iff_ne.2 hne
  have hcmp : 0 ≤ cmpN (val la) (val lb) := by unfold cmpN; split <;> (try split) <;> omega
  have HGE := Lib.hid hge
  clear hge hne
  go_enter Try.func58, Try.ntmps58
  go_wp2_with fail
  refine (cmp_calls _ _ _ _ _ _ _ _ _ (((ha.alloc _).alloc _).alloc _) (((hb.alloc _).alloc _).alloc _)).mono ?_
  rintro e w1 ⟨rfl, hd⟩
  generalize cmpN (val la) (val lb) = cv at *
  have hB1 : Below (boxed w na (.slice A n c) nb (.slice A' n' c')).heap.size (boxed w na (.slice A n c) nb (.slice A' n' c')) w1 := below_drawn (Below.refl _ _) hd
  obtain ⟨q0, q1, q2, q3⟩ := Two.of hB1
  obtain ⟨hZ1, hBa⟩ := res3 hB1
  replace hB1 := Lib.hid hB1
  have hdc : decide (cv < 0) = false := by simp; omega
  go_wp2_with fail
  refine (sub_calls _ _ _ _ _ _ _ _ _ (ha.below hBa) (hb.below hBa) HGE.out).mono ?_
  rintro e w2 ⟨A2, c2, rfl, hO2, hB2⟩
  have hB2' := below_step hB1.out hB2
  obtain ⟨q0', q1', q2', q3'⟩ := Two.of hB2'
  replace hB2' := Lib.hid hB2'
  clear q0 q1 q2 q3
  go_wp2_with fail
  refine (made_digs _ na _ _ _ hO2.sl).mono ?_
  rintro e w3 ⟨A3, c3, rfl, hO3, hB3⟩
  have hlt : w.heap.size + 2 < w2.heap.size := by have := hB2'.out.size; unfold boxed at this; rw [size3] at this; omega
  obtain ⟨hZ, hBt⟩ := res3 (below_step hB2'.out hB3)
  have hf := hZ.frozen
  have hz0 := hZ.cell0
  have hz1 := hZ.cell1
  clear hB2' hB3 hB2 hB1 hd
  go_wp2
  refine bodyPost_ret (ret_store rfl _ _ _ _ _ _ _ hZ rfl) rfl ?_
  exact RetZ.store hO3 hBt (by omega) hlt

/-- Both boxes change their contents. -/
def swapped (v : World) (g : Nat) (na : Bool) (va : Value) (nb : Bool) (vb : Value) : World :=
  (((v.setCell ⟨g, 0, none⟩ (.bool nb)).setCell ⟨g, 1, none⟩ vb).setCell ⟨g + 1, 0, none⟩ (.bool na)).setCell ⟨g + 1, 1, none⟩ va
theorem swapped_of {w v : World} {na nb : Bool} {va vb : Value} (h : Below (boxed w na va nb vb).heap.size (boxed w na va nb vb) v) :
    Zb (swapped v w.heap.size na va nb vb) w.heap.size nb vb ∧ Zb (swapped v w.heap.size na va nb vb) (w.heap.size + 1) na va ∧ Zb (swapped v w.heap.size na va nb vb) (w.heap.size + 2) false (.slice none 0 0) ∧ Below w.heap.size w (swapped v w.heap.size na va nb vb) := by
  obtain ⟨a1, a2, a3⟩ := boxed_zb w na va nb vb
  have e : (boxed w na va nb vb).heap.size = w.heap.size + 3 := size3 ..
  have b1 := (a1.below h (by omega)).set_ nb vb
  have b2 := (((a2.below h (by omega)).far (p := ⟨w.heap.size, 0, none⟩) (by simp) (.bool nb)).far (p := ⟨w.heap.size, 1, none⟩) (by simp) vb).set_ na va
  have b3 := ((((a3.below h (by omega)).far (p := ⟨w.heap.size, 0, none⟩) (by simp) (.bool nb)).far (p := ⟨w.heap.size, 1, none⟩) (by simp) vb).far (p := ⟨w.heap.size + 1, 0, none⟩) (by simp) (.bool na)).far (p := ⟨w.heap.size + 1, 1, none⟩) (by simp) va
  refine ⟨(b1.far (p := ⟨w.heap.size + 1, 0, none⟩) (by simp) (.bool na)).far (p := ⟨w.heap.size + 1, 1, none⟩) (by simp) va, b2, b3, ?_⟩
  exact below_set2 (below_set2 (res3 h).2 (Nat.le_refl _) _ _) (by omega) _ _

set_option maxHeartbeats 2000000 in
set_option maxRecDepth 8000 in
theorem zadd_lt (w : World) (na nb : Bool) (A : Option Addr) (n c : Nat) (la : List Int) (A' : Option Addr) (n' c' : Nat) (lb : List Int) (ha : Sl w A n c la) (hb : Sl w A' n' c' lb) (hne : na ≠ nb) (hlt0 : val la < val lb) :
    Calls Try.prog 58 #[.agg #[.bool na, .slice A n c], .agg #[.bool nb, .slice A' n' c']] w (RetZ (zof nb (val lb - val la)) w) := by
  have hnb : (na == nb) = false := beq_eq_false_iff_ne.2 hne
  have hcmp : cmpN (val la) (val lb) = -1 := cmpN_lt hlt0
  have HGE := Lib.hid (show val la ≤ val lb by omega)
  clear hlt0 hne
  go_enter Try.func58, Try.ntmps58
  go_wp2_with fail
  refine (cmp_calls _ _ _ _ _ _ _ _ _ (((ha.alloc _).alloc _).alloc _) (((hb.alloc _).alloc _).alloc _)).mono ?_
  rintro e w1 ⟨rfl, hd⟩
  rw [hcmp]
  clear hcmp
  have hB1 : Below (boxed w na (.slice A n c) nb (.slice A' n' c')).heap.size (boxed w na (.slice A n c) nb (.slice A' n' c')) w1 := below_drawn (Below.refl _ _) hd
  obtain ⟨q0, q1, q2, q3⟩ := Two.of hB1
  obtain ⟨f1, f2, hZ1, hBs⟩ := swapped_of hB1
  obtain ⟨a1, a2, _⟩ := boxed_zb w na (.slice A n c) nb (.slice A' n' c')
  have e3 : (boxed w na (.slice A n c) nb (.slice A' n' c')).heap.size = w.heap.size + 3 := size3 ..
  have g1 := (a1.below hB1 (by omega)).frozen
  have g2 := (a2.below hB1 (by omega)).frozen
  have hszs : (swapped w1 w.heap.size na (.slice A n c) nb (.slice A' n' c')).heap.size = w1.heap.size := by simp [swapped, World.setCell]
  have hsz1 := hB1.size
  replace hszs := Lib.hid hszs
  replace hsz1 := Lib.hid hsz1
  replace e3 := Lib.hid e3
  clear hB1 a1 a2
  go_wp2_with fail
  generalize hws : (((w1.setCell ⟨w.heap.size, 0, none⟩ (.bool nb)).setCell ⟨w.heap.size, 1, none⟩ (.slice A' n' c')).setCell ⟨w.heap.size + 1, 0, none⟩ (.bool na)).setCell ⟨w.heap.size + 1, 1, none⟩ (.slice A n c) = ws
  have hws2 : swapped w1 w.heap.size na (.slice A n c) nb (.slice A' n' c') = ws := hws
  rw [hws2] at f1 f2 hZ1 hBs hszs
  refine (sub_calls _ _ _ _ _ _ _ _ _ (hb.below hBs) (ha.below hBs) HGE.out).mono ?_
  rintro e w2 ⟨A2, c2, rfl, hO2, hB2⟩
  have k1 := f1.below hB2 f1.lt
  have k3 := hZ1.below hB2 hZ1.lt
  have k10 := k1.cell0
  have hBt2 := below_step hBs hB2
  have hlt3 := hZ1.lt
  have hle3 := hB2.size
  clear hws hws2 q0 q1 q2 q3 g1 g2 f1 f2 hZ1 hB2 hBs k1 hd hszs hsz1 e3
  go_wp2_with fail
  refine (made_digs _ nb _ _ _ hO2.sl).mono ?_
  rintro e w3 ⟨A3, c3, rfl, hO3, hB3⟩
  have hZ := k3.below hB3 (by omega)
  have hBt := below_step hBt2 hB3
  have hf := hZ.frozen
  have hz0 := hZ.cell0
  have hz1 := hZ.cell1
  clear hBt2 hB3 k3
  go_wp2
  refine bodyPost_ret (ret_store rfl _ _ _ _ _ _ _ hZ rfl) rfl ?_
  exact RetZ.store hO3 hBt (by omega) (by omega)

/-- zint.Add is the sum. -/
theorem zadd_calls (w : World) (na : Bool) (A : Option Addr) (n c : Nat) (la : List Int) (nb : Bool) (A' : Option Addr) (n' c' : Nat) (lb : List Int) (ha : Sl w A n c la) (hb : Sl w A' n' c' lb) (hs : n < 70368744177664) (hs' : n' < 70368744177664) :
    Calls Try.prog 58 #[.agg #[.bool na, .slice A n c], .agg #[.bool nb, .slice A' n' c']] w (RetZ (zof na (val la) + zof nb (val lb)) w) := by
  by_cases hne : na = nb
  · subst hne
    rw [zof_same]
    exact zadd_same w na A n c la A' n' c' lb ha hb hs hs'
  · rcases Nat.lt_or_ge (val la) (val lb) with h | h
    · rw [Int.add_comm, zof_other (fun e => hne e.symm) (by omega)]
      exact zadd_lt w na nb A n c la A' n' c' lb ha hb hne h
    · rw [zof_other hne h]
      exact zadd_ge w na nb A n c la A' n' c' lb ha hb hne h
end Go.Proofs.Ytdmahjbjlppeaaa

namespace Go.Proofs.Ytdmahjbjlppeaaa
open Go.RowKit

theorem zof_not (nb : Bool) (b : Nat) : zof (!nb) b = -zof nb b := by unfold zof; cases nb <;> simp
theorem zof_z (z : Int) : zof (decide (z < 0)) z.natAbs = z := by
  unfold zof
  by_cases h : z < 0 <;> simp [h] <;> omega
/-- zint.Add where the second is in its one form. -/
theorem zadd_z (w : World) (na : Bool) (A : Option Addr) (n c : Nat) (la : List Int) (z : Int) (A' : Option Addr) (c' : Nat) (ha : Sl w A n c la) (hb : Sl w A' (digs z.natAbs).length c' (digs z.natAbs)) (hs : n < 70368744177664) (hs' : (digs z.natAbs).length < 70368744177664) :
    Calls Try.prog 58 #[.agg #[.bool na, .slice A n c], .agg #[.bool (decide (z < 0)), .slice A' (digs z.natAbs).length c']] w (RetZ (zof na (val la) + z) w) := by
  have := zadd_calls w na A n c la (decide (z < 0)) A' _ c' _ ha hb hs hs'
  rwa [val_digs, zof_z] at this

set_option maxHeartbeats 2000000 in
set_option maxRecDepth 8000 in
theorem zsub_calls (w : World) (na : Bool) (A : Option Addr) (n c : Nat) (la : List Int) (nb : Bool) (A' : Option Addr) (n' c' : Nat) (lb : List Int) (ha : Sl w A n c la) (hb : Sl w A' n' c' lb) (hs : n < 70368744177664) (hs' : n' < 70368744177664) :
    Calls Try.prog 60 #[.agg #[.bool na, .slice A n c], .agg #[.bool nb, .slice A' n' c']] w (RetZ (zof na (val la) - zof nb (val lb)) w) := by
  have hS0 : Two w (boxed w na (.slice A n c) nb (.slice A' n' c')) na (.slice A n c) nb (.slice A' n' c') := Two.of (Below.refl _ _)
  have hB0 : Below (boxed w na (.slice A n c) nb (.slice A' n' c')).heap.size (boxed w na (.slice A n c) nb (.slice A' n' c')) (boxed w na (.slice A n c) nb (.slice A' n' c')).drew := below_drawn (Below.refl _ _) ⟨1, rfl⟩
  have hdl : (digs (zof (!nb) (val lb)).natAbs).length < 70368744177664 := by
    rw [zof_abs]
    have := digs_val_len hb.lim
    have := hb.len
    omega
  have hz : zof na (val la) - zof nb (val lb) = zof na (val la) + zof (!nb) (val lb) := by rw [zof_not]; omega
  rw [hz]
  clear hz
  unfold boxed at hS0 hB0
  replace hS0 := Lib.hid hS0
  replace hB0 := Lib.hid hB0
  go_enter Try.func60, Try.ntmps60
  go_wp2_with fail
  go_region_held3 (fun v => v.cell? ⟨w.heap.size, 0, none⟩ = some (.bool na) ∧ v.cell? ⟨w.heap.size, 1, none⟩ = some (.slice A n c) ∧ v.cell? ⟨w.heap.size + 1, 0, none⟩ = some (.bool nb) ∧ v.cell? ⟨w.heap.size + 1, 1, none⟩ = some (.slice A' n' c'))
    (first | exact hS0.out | exact hS8.out | exact hS9.out | exact Two.store hB9'.out _ _)
    (first
      | (go_at_call 78
         refine (neg_calls _ nb _ _ _ _ (((hb.alloc _).alloc _).alloc _).drew).mono ?_
         rintro e w8 ⟨A8, c8, rfl, hO8, hB8⟩
         have hB8' := Lib.hid (below_step hB0.out hB8)
         have hS8 := Lib.hid (Two.of hB8'.out))
      | (go_at_call 58
         refine (zadd_z _ na _ _ _ _ _ _ _ (((((ha.alloc _).alloc _).alloc _).drew).below hB8) hO8.sl hs hdl).mono ?_
         rintro e w9 ⟨A9, c9, rfl, hO9, hB9⟩
         have hB9' := Lib.hid (below_step hB8'.out hB9)
         have hS9 := Lib.hid (Two.of hB9'.out)
         obtain ⟨hZ, hBt⟩ := res3 hB9'.out
         have hf := hZ.frozen
         have hz0 := hZ.cell0
         have hz1 := hZ.cell1))
  all_goals
    have hlt : w.heap.size + 2 < w8.heap.size := by have := hB8'.out.size; rw [size3] at this; omega
    clear hS0 hB0 hS8 hS9 hB8' hB9' hB8 hB9
    go_wp2
    refine bodyPost_ret (ret_store rfl _ _ _ _ _ _ _ hZ rfl) rfl ?_
    exact RetZ.store hO9 hBt (by omega) hlt
end Go.Proofs.Ytdmahjbjlppeaaa

namespace Go.Proofs.Ytdmahjbjlppeaaa
open Go.RowKit

/-- Two numbers boxed: what the cells hold, in whatever world lies above. -/
def boxed2 (w : World) (na : Bool) (va : Value) (nb : Bool) (vb : Value) : World :=
  (w.alloc (.cells #[.bool na, va] 24)).alloc (.cells #[.bool nb, vb] 24)
theorem Two.of2 {w v : World} {na nb : Bool} {va vb : Value} (h : Below (boxed2 w na va nb vb).heap.size (boxed2 w na va nb vb) v) : Two w v na va nb vb := by
  have a1 := Zb.new w na va
  have a2 := Zb.new (w.alloc (.cells #[.bool na, va] 24)) nb vb
  rw [show (w.alloc (.cells #[.bool na, va] 24)).heap.size = w.heap.size + 1 by simp] at a2
  have e : (boxed2 w na va nb vb).heap.size = w.heap.size + 2 := size2 ..
  have b1 := (a1.below ((Below.refl _ _).alloc (Nat.le_refl _) (.cells #[.bool nb, vb] 24)) (by simp)).below h (by omega)
  have b2 := a2.below h (by omega)
  exact ⟨b1.cell0, b1.cell1, b2.cell0, b2.cell1⟩

end Go.Proofs.Ytdmahjbjlppeaaa

namespace Go.Proofs.Ytdmahjbjlppeaaa
open Go.RowKit

theorem sign_zof (neg : Bool) (N : Nat) : (zof neg N).sign = if N = 0 then 0 else if neg then -1 else 1 := by
  rcases Nat.eq_zero_or_pos N with h | h
  · subst h; cases neg <;> rfl
  · have hN : ¬ N = 0 := by omega
    rw [if_neg hN]
    cases neg
    · exact Int.sign_eq_one_of_pos (show (0 : Int) < (N : Int) by omega)
    · exact Int.sign_eq_neg_one_of_neg (show -(N : Int) < 0 by omega)

set_option maxHeartbeats 1000000 in
set_option maxRecDepth 8000 in
theorem sign_calls (w : World) (neg : Bool) (A : Option Addr) (n c : Nat) (l : List Int) (h : Sl w A n c l) :
    Calls Try.prog 43 #[.agg #[.bool neg, .slice A n c]] w fun e w' => e = .returned (.int .i64 (zof neg (val l)).sign) ∧ Below w.heap.size w w' := by
  have hs := Lib.hid (sign_zof neg (val l))
  have hB0 : Below w.heap.size w (w.alloc (.cells #[.bool neg, .slice A n c] 24)) := (Below.refl _ _).alloc (Nat.le_refl _) _
  rcases Nat.eq_zero_or_pos (val l) with h0 | h0
  · have e1 := Lib.hid (show blen (val l) = 0 by rw [h0]; rfl)
    have e2 := Lib.hid (show (zof neg (val l)).sign = 0 by rw [hs.out, if_pos h0])
    go_enter Try.func43, Try.ntmps43
    go_wp2_with fail
    refine (bits_calls _ _ _ _ _ (h.alloc _)).mono ?_
    rintro e w' ⟨rfl, rfl⟩
    rw [e1.out]
    go_wp2
    go_ret
    exact ⟨by rw [e2.out]; rfl, hB0⟩
  · have hb := blen_pos h0
    have hne : ((blen (val l) : Int) == 0) = false := beq_eq_false_iff_ne.2 (by omega)
    have e2 := hs.out
    rw [if_neg (by omega)] at e2
    replace e2 := Lib.hid e2
    go_enter Try.func43, Try.ntmps43
    go_wp2_with fail
    refine (bits_calls _ _ _ _ _ (h.alloc _)).mono ?_
    rintro e w' ⟨rfl, rfl⟩
    cases neg
    · go_wp2
      go_ret
      exact ⟨by rw [e2.out]; rfl, hB0⟩
    · go_wp2
      go_ret
      exact ⟨by rw [e2.out]; rfl, hB0⟩

theorem res1o {w w2 : World} {Y : Obj} (hB : Below ((w.alloc (.cells #[.bool false, .slice none 0 0] 24)).alloc Y).heap.size ((w.alloc (.cells #[.bool false, .slice none 0 0] 24)).alloc Y) w2) :
    Zb w2 w.heap.size false (.slice none 0 0) ∧ Below w.heap.size w w2 := by
  have hY := (Below.refl (w.alloc (.cells #[.bool false, .slice none 0 0] 24)).heap.size (w.alloc (.cells #[.bool false, .slice none 0 0] 24))).alloc (Nat.le_refl _) Y
  exact res1 (below_step hY hB)

theorem val_two (u : Nat) : val [(u : Int) % 4294967296, (u : Int) / 4294967296] = u := by
  simp only [val]
  omega
theorem lit_two (w : World) (o : Obj) (u : Nat) (h : u < 18446744073709551616) : Sl ((w.alloc o).alloc (.cells #[.int .u32 ((u : Int) % 4294967296), .int .u32 ((u : Int) / 4294967296)] 68)) (some ⟨w.heap.size + 1, 0, none⟩) 2 2 [(u : Int) % 4294967296, (u : Int) / 4294967296] := by
  have hR := Row.lit (w.alloc o) [(u : Int) % 4294967296, (u : Int) / 4294967296] (by intro x hx; simp at hx; omega) (by simp) _ rfl
  rw [show (w.alloc o).heap.size = w.heap.size + 1 by simp] at hR
  exact hR.toOwn.sl

set_option maxHeartbeats 1000000 in
set_option maxRecDepth 8000 in
theorem of_pos (w : World) (u : Nat) (h1 : u < 9223372036854775808) : Calls Try.prog 52 #[.int .i64 u] w (RetZ u w) := by
  have hw1 : IntKind.u64.wrap (u : Int) = u := IntWalk.u64_in _ (by omega)
  have hd : decide ((u : Int) < 0) = false := by simp
  go_enter Try.func52, Try.ntmps52
  go_wp2_with fail
  have hm := made_calls _ false _ _ _ _ (lit_two w (.cells #[.bool false, .slice none 0 0] 24) u (by omega))
  rw [val_two] at hm
  rw [show zof false u = (u : Int) from rfl] at hm
  replace hm := Lib.hid hm
  refine hm.out.mono ?_
  rintro e w2 ⟨A2, c2, rfl, hO, hB⟩
  have hb := hB.size
  rw [size2] at hb
  obtain ⟨hZ, hB2⟩ := res1o hB
  have hf := hZ.frozen
  have h0 := hZ.cell0
  have h1 := hZ.cell1
  rw [size2] at hO
  clear hB hm hd
  go_wp2
  refine bodyPost_ret (ret_store rfl _ _ _ _ _ _ _ hZ rfl) rfl ?_
  exact RetZ.store hO hB2 (by omega) (by omega)
set_option maxHeartbeats 1000000 in
set_option maxRecDepth 8000 in
theorem of_neg (w : World) (u : Nat) (h0 : 0 < u) (h1 : u ≤ 9223372036854775808) : Calls Try.prog 52 #[.int .i64 (-(u : Int))] w (RetZ (-(u : Int)) w) := by
  have hw1 : IntKind.u64.wrap (-(u : Int)) = 18446744073709551616 - u := by rw [IntKind.wrap_u64]; omega
  have hw2 : IntKind.u64.wrap (-(18446744073709551616 - (u : Int))) = u := by rw [IntKind.wrap_u64]; omega
  have hd : decide (-(u : Int) < 0) = true := by simp; omega
  go_enter Try.func52, Try.ntmps52
  go_wp2_with fail
  have hm := made_calls _ true _ _ _ _ (lit_two w (.cells #[.bool false, .slice none 0 0] 24) u (by omega))
  rw [val_two] at hm
  rw [show zof true u = -(u : Int) from rfl] at hm
  replace hm := Lib.hid hm
  refine hm.out.mono ?_
  rintro e w2 ⟨A2, c2, rfl, hO, hB⟩
  have hdt := Lib.hid hd
  rw [hdt.out]
  have hb := hB.size
  rw [size2] at hb
  obtain ⟨hZ, hB2⟩ := res1o hB
  have hf := hZ.frozen
  have h0 := hZ.cell0
  have h1 := hZ.cell1
  rw [size2] at hO
  clear hB hm hd
  go_wp2
  refine bodyPost_ret (ret_store rfl _ _ _ _ _ _ _ hZ rfl) rfl ?_
  have hfin := RetZ.store (g := w.heap.size) hO hB2 (by omega) (by omega)
  have hna : (-(u : Int)).natAbs = u := by omega
  rw [hdt.out, hna] at hfin
  exact hfin

/-- zint.Of is the number itself. -/
theorem of_calls (w : World) (z : Int) (h0 : -9223372036854775808 ≤ z) (h1 : z ≤ 9223372036854775807) : Calls Try.prog 52 #[.int .i64 z] w (RetZ z w) := by
  by_cases h : z < 0
  · obtain ⟨u, rfl⟩ : ∃ u : Nat, z = -(u : Int) := ⟨z.natAbs, by omega⟩
    exact of_neg w u (by omega) (by omega)
  · obtain ⟨u, rfl⟩ : ∃ u : Nat, z = (u : Int) := ⟨z.natAbs, by omega⟩
    exact of_pos w u (by omega)

/-- The text of a whole number. -/
def ztxt (z : Int) : ByteArray := if z < 0 then ⟨#[45]⟩ ++ strOfNums (decs z.natAbs) else strOfNums (decs z.natAbs)
/-- zint.Text of a number below nought, and of the others. -/
theorem ztext_calls (w : World) (neg : Bool) (A : Option Addr) (n c : Nat) (l : List Int) (h : Sl w A n c l) (hs : n ≤ 4398046511104) :
    Calls Try.prog 71 #[.agg #[.bool neg, .slice A n c]] w fun e w' => e = .returned (.string (ztxt (zof neg (val l)))) ∧ Below w.heap.size w w' := by
  have hB0 : Below w.heap.size w (w.alloc (.cells #[.bool neg, .slice A n c] 24)) := (Below.refl _ _).alloc (Nat.le_refl _) _
  have hZ0 := Zb.new w neg (.slice A n c)
  have hsz : (strOfNums (decs (val l))).size ≤ 87960930222080 := by
    have h1 := decR_len_val h.lim
    have h2 := h.len
    rw [strOfNums_size]
    unfold decs
    split
    · simp
    · rw [List.length_reverse]; omega
  have ht : ∀ v, Below w.heap.size w v → Calls Try.prog 97 #[.slice A n c] v fun e w' => e = .returned (.string (strOfNums (decs (val l)))) ∧ Below v.heap.size v w' := fun v hv => (text_calls v A n c l (h.below hv) (by omega)).mono fun _ _ h => h
  replace ht := Lib.hid ht
  by_cases hz : zof neg (val l) < 0
  · have hr := Lib.hid (show ztxt (zof neg (val l)) = ⟨#[45]⟩ ++ strOfNums (decs (val l)) by unfold ztxt; rw [if_pos hz, zof_abs])
    generalize strOfNums (decs (val l)) = T at *
    have hsg : (zof neg (val l)).sign = -1 := Int.sign_eq_neg_one_of_neg hz
    have hsc := sign_calls (w.alloc (.cells #[.bool neg, .slice A n c] 24)) neg A n c l (h.alloc _)
    rw [hsg] at hsc
    replace hsc := Lib.hid hsc
    clear hz hsg
    go_enter Try.func71, Try.ntmps71
    go_wp2_with fail
    refine hsc.out.mono ?_
    rintro e w2 ⟨rfl, hB2⟩
    have hZ2 := hZ0.below hB2 hZ0.lt
    have k0 := hZ2.cell0
    have k1 := hZ2.cell1
    have hBt := below_step hB0 hB2
    go_wp2_with fail
    refine (ht.out _ hBt).mono ?_
    rintro e w3 ⟨rfl, hB3⟩
    go_wp2
    go_ret
    exact ⟨by rw [hr.out]; rfl, below_step hBt hB3⟩
  · have hr := Lib.hid (show ztxt (zof neg (val l)) = strOfNums (decs (val l)) by unfold ztxt; rw [if_neg hz, zof_abs])
    generalize strOfNums (decs (val l)) = T at *
    have hsg : 0 ≤ (zof neg (val l)).sign := Int.sign_nonneg_iff.2 (by omega)
    have hsc := sign_calls (w.alloc (.cells #[.bool neg, .slice A n c] 24)) neg A n c l (h.alloc _)
    generalize (zof neg (val l)).sign = sg at *
    have hdd : decide (sg < 0) = false := by simp; omega
    replace hsc := Lib.hid hsc
    clear hz
    go_enter Try.func71, Try.ntmps71
    go_wp2_with fail
    refine hsc.out.mono ?_
    rintro e w2 ⟨rfl, hB2⟩
    have hZ2 := hZ0.below hB2 hZ0.lt
    have k0 := hZ2.cell0
    have k1 := hZ2.cell1
    have hBt := below_step hB0 hB2
    go_wp2_with fail
    refine (ht.out _ hBt).mono ?_
    rintro e w3 ⟨rfl, hB3⟩
    go_wp2
    go_ret
    exact ⟨by rw [hr.out]; rfl, below_step hBt hB3⟩
end Go.Proofs.Ytdmahjbjlppeaaa

namespace Go.Proofs.Ytdmahjbjlppeaaa
open Go.RowKit

/-- zint.Mul where both are in their one form. -/
theorem zmul_z (w : World) (y z : Int) (A : Option Addr) (c : Nat) (A' : Option Addr) (c' : Nat) (ha : Sl w A (digs y.natAbs).length c (digs y.natAbs)) (hb : Sl w A' (digs z.natAbs).length c' (digs z.natAbs)) (hs : (digs y.natAbs).length + (digs z.natAbs).length ≤ 70368744177664) :
    Calls Try.prog 55 #[.agg #[.bool (decide (y < 0)), .slice A (digs y.natAbs).length c], .agg #[.bool (decide (z < 0)), .slice A' (digs z.natAbs).length c']] w (RetZ (y * z) w) := by
  have h := zmul_calls w (decide (y < 0)) A _ c _ (decide (z < 0)) A' _ c' _ ha hb hs
  rw [val_digs, val_digs] at h
  have e : zof (decide (y < 0) != decide (z < 0)) (y.natAbs * z.natAbs) = y * z := by
    rw [← Int.natAbs_mul]
    unfold zof
    rcases Int.lt_trichotomy y 0 with h1 | h1 | h1 <;> rcases Int.lt_trichotomy z 0 with h2 | h2 | h2
    · have := Int.mul_pos_of_neg_of_neg h1 h2
      simp [h1, h2]; omega
    · subst h2; simp [h1]
    · have := Int.mul_neg_of_neg_of_pos h1 h2
      have h3 : ¬ z < 0 := by omega
      simp [h1, h3]; omega
    · subst h1; simp
    · subst h1; simp
    · subst h1; simp
    · have := Int.mul_neg_of_pos_of_neg h1 h2
      have h3 : ¬ y < 0 := by omega
      simp [h2, h3]; omega
    · subst h2; simp
    · have := Int.mul_pos h1 h2
      have h3 : ¬ y < 0 := by omega
      have h4 : ¬ z < 0 := by omega
      simp [h3, h4]; omega
  rwa [e] at h
theorem dec42 : ztxt (-42) = ⟨#[45, 52, 50]⟩ := by
  have : decs 42 = [52, 50] := by
    unfold decs
    rw [if_neg (by omega), decR_pos (by omega), decR_pos (by omega), show 42 / 10 / 10 = 0 from rfl, decR_zero]
    rfl
  unfold ztxt
  rw [if_pos (by omega), show (-42 : Int).natAbs = 42 from rfl, this]
  rfl

theorem seven : ∃ y : Int, y = -7 ∧ ∀ v, Calls Try.prog 52 #[.int .i64 (-7)] v (RetZ y v) := ⟨-7, rfl, fun v => of_calls v (-7) (by omega) (by omega)⟩
theorem six : ∃ y : Int, y = 6 ∧ ∀ v, Calls Try.prog 52 #[.int .i64 6] v (RetZ y v) := ⟨6, rfl, fun v => of_calls v 6 (by omega) (by omega)⟩

end Go.Proofs.Ytdmahjbjlppeaaa

namespace Go.Proofs.Ytdmahjbjlppeaaa
open Go.RowKit

/-- The value x is the number z in its one form. -/
structure Cz (v : World) (x : Value) (z : Int) : Prop where
  ex : ∃ A c, x = .agg #[.bool (decide (z < 0)), .slice A (digs z.natAbs).length c] ∧ Sl v A (digs z.natAbs).length c (digs z.natAbs)
/-- The value x stands for the number z, of N limbs at the most. -/
structure Az (N : Nat) (v : World) (x : Value) (z : Int) : Prop where
  ex : ∃ neg A n c l, x = .agg #[.bool neg, .slice A n c] ∧ Sl v A n c l ∧ zof neg (val l) = z ∧ n ≤ N
def RetC (z : Int) (w : World) (e : Ending) (w' : World) : Prop := ∃ r, e = .returned r ∧ Cz w' r z ∧ Below w.heap.size w w'
theorem RetZ.c {z : Int} {w : World} {e : Ending} {w' : World} (h : RetZ z w e w') : RetC z w e w' := by
  obtain ⟨A, c, rfl, hO, hB⟩ := h
  exact ⟨_, rfl, ⟨A, c, rfl, hO.sl⟩, hB⟩
theorem Cz.below {v v' : World} {x : Value} {z : Int} (h : Cz v x z) (hB : Below v.heap.size v v') : Cz v' x z := by
  obtain ⟨A, c, rfl, hS⟩ := h
  exact ⟨A, c, rfl, hS.below hB⟩
theorem Az.below {N : Nat} {v v' : World} {x : Value} {z : Int} (h : Az N v x z) (hB : Below v.heap.size v v') : Az N v' x z := by
  obtain ⟨neg, A, n, c, l, rfl, hS, hz, hn⟩ := h
  exact ⟨neg, A, n, c, l, rfl, hS.below hB, hz, hn⟩
theorem Cz.az {v : World} {x : Value} {z : Int} {N : Nat} (h : Cz v x z) (hN : (digs z.natAbs).length ≤ N) : Az N v x z := by
  obtain ⟨A, c, rfl, hS⟩ := h
  exact ⟨_, A, _, c, _, rfl, hS, by rw [val_digs, zof_z], hN⟩
theorem Az.len {N : Nat} {v : World} {x : Value} {z : Int} (h : Az N v x z) : (digs z.natAbs).length ≤ N := by
  obtain ⟨neg, A, n, c, l, rfl, hS, rfl, hn⟩ := h
  rw [zof_abs]
  have := digs_val_len hS.lim
  have := hS.len
  omega
theorem len_add {y z : Int} {k : Nat} (hy : (digs y.natAbs).length ≤ k) (hz : (digs z.natAbs).length ≤ k) : (digs (y + z).natAbs).length ≤ k + 1 := digs_len_le (by
  have h1 := digs_len_lt_iff.1 hy
  have h2 := digs_len_lt_iff.1 hz
  rw [Nat.pow_succ]
  omega)
theorem len_neg {z : Int} {k : Nat} (hz : (digs z.natAbs).length ≤ k) : (digs (-z).natAbs).length ≤ k := by rwa [Int.natAbs_neg]
theorem len_mul {y z : Int} {k m : Nat} (hy : (digs y.natAbs).length ≤ k) (hz : (digs z.natAbs).length ≤ m) : (digs (y * z).natAbs).length ≤ k + m := digs_len_le (by
  have h1 := digs_len_lt_iff.1 hy
  have h2 := digs_len_lt_iff.1 hz
  rw [Int.natAbs_mul, Nat.pow_add]
  exact Nat.mul_lt_mul'' h1 h2)

theorem add_c {N M : Nat} {v : World} {x x' : Value} {y z : Int} (h : Az N v x y) (h' : Az M v x' z) (hN : N ≤ 35184372088832) (hM : M ≤ 35184372088832) : Calls Try.prog 58 #[x, x'] v (RetC (y + z) v) := by
  obtain ⟨neg, A, n, c, l, rfl, hS, rfl, hn⟩ := h
  obtain ⟨neg', A', n', c', l', rfl, hS', rfl, hn'⟩ := h'
  exact (zadd_calls v neg A n c l neg' A' n' c' l' hS hS' (by omega) (by omega)).mono fun _ _ h => h.c
theorem sub_c {N M : Nat} {v : World} {x x' : Value} {y z : Int} (h : Az N v x y) (h' : Az M v x' z) (hN : N ≤ 35184372088832) (hM : M ≤ 35184372088832) : Calls Try.prog 60 #[x, x'] v (RetC (y - z) v) := by
  obtain ⟨neg, A, n, c, l, rfl, hS, rfl, hn⟩ := h
  obtain ⟨neg', A', n', c', l', rfl, hS', rfl, hn'⟩ := h'
  exact (zsub_calls v neg A n c l neg' A' n' c' l' hS hS' (by omega) (by omega)).mono fun _ _ h => h.c
theorem mul_c {N M : Nat} {v : World} {x x' : Value} {y z : Int} (h : Az N v x y) (h' : Az M v x' z) (hN : N ≤ 35184372088832) (hM : M ≤ 35184372088832) : Calls Try.prog 55 #[x, x'] v (RetC (y * z) v) := by
  obtain ⟨neg, A, n, c, l, rfl, hS, rfl, hn⟩ := h
  obtain ⟨neg', A', n', c', l', rfl, hS', rfl, hn'⟩ := h'
  have e : zof (neg != neg') (val l * val l') = zof neg (val l) * zof neg' (val l') := by
    unfold zof
    cases neg <;> cases neg' <;> simp [Int.neg_mul, Int.mul_neg]
  rw [← e]
  exact (zmul_calls v neg A n c l neg' A' n' c' l' hS hS' (by omega)).mono fun _ _ h => h.c
theorem form_c {N : Nat} {v : World} {x : Value} {y : Int} (h : Az N v x y) : Calls Try.prog 51 #[x] v (RetC y v) := by
  obtain ⟨neg, A, n, c, l, rfl, hS, rfl, hn⟩ := h
  exact (form_calls v neg A n c l hS).mono fun _ _ h => h.c
end Go.Proofs.Ytdmahjbjlppeaaa

namespace Go.Proofs.Ytdmahjbjlppeaaa

/-- The floor of z / u (u not nought), and what is left. -/
def fl (z u : Int) : Int := if u < 0 then (-z) / (-u) else z / u
def md (z u : Int) : Int := z - fl z u * u
theorem fl_md (z u : Int) : z = fl z u * u + md z u := by unfold md; omega
theorem fl_unique {z u q r : Int} (h : z = q * u + r) (hr : (0 ≤ r ∧ r < u) ∨ (u < r ∧ r ≤ 0)) : q = fl z u ∧ r = md z u := by
  have hq : q = fl z u := by
    unfold fl
    rcases hr with ⟨h0, h1⟩ | ⟨h0, h1⟩
    · rw [if_neg (by omega)]
      exact ((Int.ediv_emod_unique (by omega)).2 ⟨by rw [Int.mul_comm]; omega, h0, h1⟩).1.symm
    · rw [if_pos (by omega)]
      exact ((Int.ediv_emod_unique (a := -z) (b := -u) (q := q) (r := -r) (by omega)).2 ⟨by rw [Int.neg_mul, Int.mul_comm]; omega, by omega, by omega⟩).1.symm
  refine ⟨hq, ?_⟩
  unfold md
  rw [← hq]
  omega
theorem md_range {z u : Int} (hu : u ≠ 0) : (0 ≤ md z u ∧ md z u < u) ∨ (u < md z u ∧ md z u ≤ 0) := by
  unfold md fl
  by_cases h : u < 0
  · right
    rw [if_pos h]
    have h1 := Int.emod_nonneg (-z) (b := -u) (by omega)
    have h2 := Int.emod_lt_of_pos (-z) (b := -u) (by omega)
    have h3 := Int.mul_ediv_add_emod (-z) (-u)
    rw [Int.neg_mul, Int.mul_comm] at h3
    omega
  · left
    rw [if_neg h]
    have h1 := Int.emod_nonneg z hu
    have h2 := Int.emod_lt_of_pos z (b := u) (by omega)
    have h3 := Int.mul_ediv_add_emod z u
    rw [Int.mul_comm] at h3
    omega
theorem zof_div (s t : Bool) (a b : Nat) : zof s a = zof (!(s == t)) (a / b) * zof t b + zof s (a % b) := by
  have h : (a : Int) = ((a / b : Nat) : Int) * (b : Int) + ((a % b : Nat) : Int) := by
    have := Nat.div_add_mod a b
    rw [Nat.mul_comm] at this
    rw [← Int.natCast_mul, ← Int.natCast_add, this]
  generalize ((a / b : Nat)) = q at *
  generalize ((a % b : Nat)) = r at *
  unfold zof
  cases s <;> cases t <;> simp [Int.neg_mul, Int.mul_neg] <;> omega
theorem sign_eq_iff {a b : Int} : (a.sign == b.sign) = true ↔ ((0 < a ∧ 0 < b) ∨ (a < 0 ∧ b < 0) ∨ (a = 0 ∧ b = 0)) := by
  rw [beq_iff_eq]
  rcases Int.lt_trichotomy a 0 with h | h | h <;> rcases Int.lt_trichotomy b 0 with k | k | k <;>
    simp [Int.sign_eq_neg_one_of_neg, Int.sign_eq_one_of_pos, *] <;> omega
theorem sign_eq_zero {a : Int} : (a.sign == 0) = true ↔ a = 0 := by simp [Int.sign_eq_zero_iff_zero]
/-- The three ways to the floor from the quotient that is cut towards nought. -/
theorem floor_ways {s t : Bool} {a b : Nat} (hb : 0 < b) {z u : Int} (hz : zof s a = z) (hu : zof t b = u) :
    ((zof s (a % b)).sign == 0) = true ∧ zof (!(s == t)) (a / b) = fl z u ∧ zof s (a % b) = md z u ∨
    ((zof s (a % b)).sign == 0) = false ∧ ((zof s (a % b)).sign == u.sign) = true ∧ zof (!(s == t)) (a / b) = fl z u ∧ zof s (a % b) = md z u ∨
    ((zof s (a % b)).sign == 0) = false ∧ ((zof s (a % b)).sign == u.sign) = false ∧ zof (!(s == t)) (a / b) - 1 = fl z u ∧ zof s (a % b) + u = md z u := by
  have h := zof_div s t a b
  rw [hz, hu] at h
  have hlt := Nat.mod_lt a hb
  have hr : (zof s (a % b)).natAbs = a % b := zof_abs _ _
  have hu2 : u.natAbs = b := by rw [← hu, zof_abs]
  generalize zof (!(s == t)) (a / b) = q at *
  generalize zof s (a % b) = r at *
  cases h1 : (r.sign == 0) with
  | true =>
    have := sign_eq_zero.1 h1
    obtain ⟨e1, e2⟩ := fl_unique h (by omega)
    exact .inl ⟨rfl, e1, e2⟩
  | false =>
    have h1' : r ≠ 0 := fun e => by rw [sign_eq_zero.2 e] at h1; cases h1
    cases h2 : (r.sign == u.sign) with
    | true =>
      have := sign_eq_iff.1 h2
      obtain ⟨e1, e2⟩ := fl_unique h (by omega)
      exact .inr (.inl ⟨rfl, rfl, e1, e2⟩)
    | false =>
      have h2' : ¬ ((0 < r ∧ 0 < u) ∨ (r < 0 ∧ u < 0) ∨ (r = 0 ∧ u = 0)) := fun e => by rw [sign_eq_iff.2 e] at h2; cases h2
      obtain ⟨e1, e2⟩ := fl_unique (z := z) (u := u) (q := q - 1) (r := r + u) (by rw [Int.sub_mul]; omega) (by omega)
      exact .inr (.inr ⟨rfl, rfl, e1, e2⟩)
theorem fl_len {z u : Int} {k : Nat} (hk : (digs z.natAbs).length ≤ k) : (digs (fl z u).natAbs).length ≤ k + 1 := by
  have h1 := digs_len_lt_iff.1 hk
  refine digs_len_le ?_
  have h2 : (fl z u).natAbs ≤ z.natAbs := by
    unfold fl
    split
    · have := Int.natAbs_ediv_le_natAbs (-z) (-u); omega
    · exact Int.natAbs_ediv_le_natAbs z u
  rw [Nat.pow_succ]
  omega
theorem md_len {z u : Int} {k : Nat} (hu : u ≠ 0) (hk : (digs u.natAbs).length ≤ k) : (digs (md z u).natAbs).length ≤ k := by
  have h1 := digs_len_lt_iff.1 hk
  have := md_range (z := z) hu
  exact digs_len_le (by omega)
end Go.Proofs.Ytdmahjbjlppeaaa
