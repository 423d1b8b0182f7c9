/- How numbers lie in memory: a slice of limbs that is read, and one that a call made. -/
import Derived.Test.YtkidgeeedigkhaaProg
import Derived.Test.YtkidgeeedigkhaaNum
import Derived.WalkKit
import Derived.Below
import Derived.Lib.Hide
import Derived.KernelRfl
import Derived.Deep.LoopGhost
import Derived.Deep.RegionHeld3
import Derived.Deep.QuietTactic
import Derived.BigQuiet
import Derived.IntWalk
import Derived.Deep.OwnRows
import Derived.Deep.AppendLies
import Derived.Maps.AppendAt
namespace Go.Proofs.Ytkidgeeedigkhaa
open Go.RowKit

def nums (l : List Int) : List Value := l.map fun x => .int .u32 x
theorem nums_length (l : List Int) : (nums l).length = l.length := by simp [nums]
theorem nums_getElem? (l : List Int) (j : Nat) (h : j < l.length) : (nums l)[j]? = some (.int .u32 (l.getD j 0)) := by
  simp [nums, List.getElem?_eq_getElem h, List.getD_eq_getElem?_getD]

/-- A slice value '.slice A n c' that reads as the limbs l. -/
structure Sl (w : World) (A : Option Addr) (n c : Nat) (l : List Int) : Prop where
  lim : Lim l
  len : l.length = n
  le : n ≤ c
  small : n ≤ 70368744177664
  cells : 0 < n → ∃ b off, A = some ⟨b, off, none⟩ ∧ b < w.heap.size ∧ ∀ j, j < n → w.cell? ⟨b, off + j, none⟩ = some (.int .u32 (l.getD j 0))

theorem Sl.nil (w : World) (A : Option Addr) (c : Nat) : Sl w A 0 c [] := ⟨Lim.nil, rfl, Nat.zero_le _, by omega, fun h => absurd h (by omega)⟩
theorem Sl.below {w w1 : World} {A : Option Addr} {n c : Nat} {l : List Int} (h : Sl w A n c l) (hb : Below w.heap.size w w1) : Sl w1 A n c l :=
  ⟨h.lim, h.len, h.le, h.small, fun h0 => by
    obtain ⟨b, off, e, hlt, hc⟩ := h.cells h0
    exact ⟨b, off, e, Nat.lt_of_lt_of_le hlt hb.size, fun j hj => (hb.cell (p := ⟨b, off + j, none⟩) hlt).trans (hc j hj)⟩⟩
theorem Sl.alloc {w : World} {A : Option Addr} {n c : Nat} {l : List Int} (h : Sl w A n c l) (o : Obj) : Sl (w.alloc o) A n c l := h.below ((Below.refl _ _).alloc (Nat.le_refl _) o)
theorem Sl.drew {w : World} {A : Option Addr} {n c : Nat} {l : List Int} (h : Sl w A n c l) : Sl w.drew A n c l := ⟨h.lim, h.len, h.le, h.small, h.cells⟩
theorem Sl.drewN {w : World} {A : Option Addr} {n c : Nat} {l : List Int} (h : Sl w A n c l) (k : Nat) : Sl (w.drewN k) A n c l := ⟨h.lim, h.len, h.le, h.small, h.cells⟩
theorem Sl.take {w : World} {A : Option Addr} {n c : Nat} {l : List Int} (h : Sl w A n c l) (m : Nat) (hm : m ≤ n) : Sl w A m c (l.take m) :=
  ⟨h.lim.take m, by have := h.len; simp; omega, by have := h.le; omega, by have := h.small; omega, fun h0 => by
    obtain ⟨b, off, e, hlt, hc⟩ := h.cells (by omega)
    refine ⟨b, off, e, hlt, fun j hj => ?_⟩
    rw [hc j (by omega), List.getD_eq_getElem?_getD, List.getD_eq_getElem?_getD, List.getElem?_take, if_pos (by omega)]⟩
theorem Sl.at_ {w : World} {A : Option Addr} {n c : Nat} {l : List Int} (h : Sl w A n c l) {i : Nat} (hi : i < n) : ∃ b off, A = some ⟨b, off, none⟩ ∧ w.cell? ⟨b, off + i, none⟩ = some (.int .u32 (l.getD i 0)) := by
  obtain ⟨b, off, e, _, hc⟩ := h.cells (by omega)
  exact ⟨b, off, e, hc i hi⟩

/-- The limbs of l's number are the front of l. -/
theorem strip_take : ∀ {l : List Int}, Lim l → l.take (digs (val l)).length = digs (val l)
  | [], _ => by simp [val, digs_zero]
  | x :: xs, h => by
    by_cases h0 : val (x :: xs) = 0
    · rw [h0, digs_zero]; rfl
    · have hx := h.head
      rw [digs_pos (by omega)]
      simp only [val]
      have e1 : (x.toNat + 4294967296 * val xs) % 4294967296 = x.toNat := by omega
      have e2 : (x.toNat + 4294967296 * val xs) / 4294967296 = val xs := by omega
      rw [e1, e2, List.length_cons, List.take_succ_cons, strip_take h.tail, Int.toNat_of_nonneg hx.1]
theorem Sl.strip {w : World} {A : Option Addr} {n c : Nat} {l : List Int} (h : Sl w A n c l) : Sl w A (digs (val l)).length c (digs (val l)) := by
  have := h.take (digs (val l)).length (by have := digs_val_len h.lim; have := h.len; omega)
  rwa [strip_take h.lim] at this
theorem val_take_pred {l : List Int} {n : Nat} (hn : 0 < n) (hl : n ≤ l.length) (hz : l.getD (n - 1) 0 = 0) : val (l.take (n - 1)) = val (l.take n) := by
  obtain ⟨m, rfl⟩ : ∃ m, n = m + 1 := ⟨n - 1, by omega⟩
  simp only [Nat.add_sub_cancel] at hz ⊢
  rw [val_take_succ l m (by omega), hz]
  simp
theorem len_of_top {l : List Int} (h : Lim l) {n : Nat} (hn : 0 < n) (hl : n ≤ l.length) (hv : val (l.take n) = val l) (hz : l.getD (n - 1) 0 ≠ 0) : (digs (val l)).length = n := by
  have hc : Canon (l.take n) := by
    obtain ⟨m, rfl⟩ : ∃ m, n = m + 1 := ⟨n - 1, by omega⟩
    rw [List.take_succ_eq_append_getElem (by omega)]
    apply canon_snoc
    simp only [Nat.add_sub_cancel] at hz
    rw [List.getD_eq_getElem?_getD, List.getElem?_eq_getElem (by omega)] at hz
    exact hz
  have := canon_digs (h.take n) hc
  rw [← hv, ← this, List.length_take, Nat.min_eq_left hl]

/-- A slice of limbs in a block of the call's own, from its head on. -/
structure Own (w : World) (base : Nat) (A : Option Addr) (n c : Nat) (l : List Int) : Prop where
  lim : Lim l
  len : l.length = n
  small : n ≤ 70368744177664
  own : w.ownsRow base 62 1 (.slice A n c) n (nums l)

theorem ownsRow_below {w w1 : World} {base : Nat} {e : TypeId} {size n : Nat} {v : Value} {xs : List Value} (h : w.ownsRow base e size v n xs) (hb : Below w.heap.size w w1) : w1.ownsRow base e size v n xs :=
  h.kept (row := none) ⟨hb.os, hb.tape, hb.output, hb.size, fun i hi _ => hb.block i hi⟩ (by cases v.ownBlock <;> simp)
theorem ownsRow_base {w : World} {base base' : Nat} {e : TypeId} {size n : Nat} {v : Value} {xs : List Value} (h : w.ownsRow base e size v n xs) (hb : base' ≤ base) : w.ownsRow base' e size v n xs := by
  obtain ⟨h1, h2⟩ := h
  refine ⟨h1, ?_⟩
  rcases h2 with h2 | ⟨g, cap, cur, hv, hg, r⟩
  · exact .inl h2
  · exact .inr ⟨g, cap, cur, hv, by omega, r⟩
theorem Own.below {w w1 : World} {base : Nat} {A : Option Addr} {n c : Nat} {l : List Int} (h : Own w base A n c l) (hb : Below w.heap.size w w1) : Own w1 base A n c l := ⟨h.lim, h.len, h.small, ownsRow_below h.own hb⟩
theorem Own.base {w : World} {base base' : Nat} {A : Option Addr} {n c : Nat} {l : List Int} (h : Own w base A n c l) (hb : base' ≤ base) : Own w base' A n c l := ⟨h.lim, h.len, h.small, ownsRow_base h.own hb⟩
theorem Own.alloc {w : World} {base : Nat} {A : Option Addr} {n c : Nat} {l : List Int} (h : Own w base A n c l) (o : Obj) : Own (w.alloc o) base A n c l := h.below ((Below.refl _ _).alloc (Nat.le_refl _) o)
theorem Own.drew {w : World} {base : Nat} {A : Option Addr} {n c : Nat} {l : List Int} (h : Own w base A n c l) : Own w.drew base A n c l := ⟨h.lim, h.len, h.small, h.own⟩
theorem Own.drewN {w : World} {base : Nat} {A : Option Addr} {n c : Nat} {l : List Int} (h : Own w base A n c l) (k : Nat) : Own (w.drewN k) base A n c l := ⟨h.lim, h.len, h.small, h.own⟩
theorem Own.setLow {w : World} {base : Nat} {A : Option Addr} {n c : Nat} {l : List Int} (h : Own w base A n c l) {g : Nat} (hg : g < base) (j : Nat) (u : Value) : Own (w.setCell ⟨g, j, none⟩ u) base A n c l := ⟨h.lim, h.len, h.small, ownsRow_setCell_below h.own (a := ⟨g, j, none⟩) hg u⟩
theorem Own.nil (w : World) (base : Nat) : Own w base none 0 0 [] := ⟨Lim.nil, rfl, by omega, World.ownsRow_nil w base _ 1⟩
theorem ownsRow_cap {w : World} {base : Nat} {e : TypeId} {n c : Nat} {A : Option Addr} {xs : List Value} (h : w.ownsRow base e 1 (.slice A n c) n xs) : n ≤ c := by
  rcases h.2 with ⟨h', h0⟩ | ⟨g', cap', cur, h', _, _, hn, _⟩
  · omega
  · injection h' with _ _ h'; omega
theorem Own.sl {w : World} {base : Nat} {A : Option Addr} {n c : Nat} {l : List Int} (h : Own w base A n c l) : Sl w A n c l :=
  ⟨h.lim, h.len, ownsRow_cap h.own, h.small, fun h0 => by
    obtain ⟨g, cap, hv, _, hlt⟩ := h.own.form h0
    injection hv with hA _ hc
    subst hA hc
    exact ⟨g, 0, rfl, hlt, fun j hj => by rw [Nat.zero_add, h.own.cellAt j (by omega), nums_getElem? l j (by rw [h.len]; exact hj)]⟩⟩
theorem ownsRow_take {w : World} {base : Nat} {e : TypeId} {n c : Nat} {A : Option Addr} {xs : List Value} (h : w.ownsRow base e 1 (.slice A n c) n xs) (m : Nat) (hm : m ≤ n) : w.ownsRow base e 1 (.slice A m c) m (xs.take m) := by
  have hl := h.1
  refine ⟨by simp; omega, ?_⟩
  rcases h.2 with ⟨h', h0⟩ | ⟨g', cap', cur, h', hb, hh, hn, hc, hs, ht⟩
  · injection h' with hA _ hc
    subst hA hc
    exact .inl ⟨by congr 1; omega, by omega⟩
  · injection h' with hA _ hc'
    subst hA hc'
    refine .inr ⟨g', c, cur, rfl, hb, hh, by omega, hc, hs, ?_⟩
    rw [← ht, List.take_take]
    congr 1; omega
theorem nums_take (l : List Int) (n : Nat) : nums (l.take n) = (nums l).take n := by simp [nums, List.map_take]
theorem Own.take {w : World} {base : Nat} {A : Option Addr} {n c : Nat} {l : List Int} (h : Own w base A n c l) (m : Nat) (hm : m ≤ n) : Own w base A m c (l.take m) :=
  ⟨h.lim.take m, by have := h.len; simp; omega, by have := h.small; omega, by
    rw [nums_take]
    exact ownsRow_take h.own m hm⟩
theorem Own.strip {w : World} {base : Nat} {A : Option Addr} {n c : Nat} {l : List Int} (h : Own w base A n c l) : Own w base A (digs (val l)).length c (digs (val l)) := by
  have := h.take (digs (val l)).length (by have := digs_val_len h.lim; have := h.len; omega)
  rwa [strip_take h.lim] at this

/-- The same with the block's number told: a row that is written. -/
structure Row (w : World) (base g c n : Nat) (l : List Int) : Prop where
  lim : Lim l
  len : l.length = n
  small : n ≤ 70368744177664
  own : w.ownsRow base 62 1 (.slice (some ⟨g, 0, none⟩) n c) n (nums l)
theorem Row.cell {w : World} {base g c n : Nat} {l : List Int} (h : Row w base g c n l) (j : Nat) (hj : j < n) : w.cell? ⟨g, j, none⟩ = some (.int .u32 (l.getD j 0)) := by
  rw [h.own.cellAt j (by omega), nums_getElem? l j (by rw [h.len]; exact hj)]
theorem Row.frozen {w : World} {base g c n : Nat} {l : List Int} (h : Row w base g c n l) (j : Nat) : w.frozen? ⟨g, j, none⟩ = false := h.own.frozenAt j
theorem Row.lt {w : World} {base g c n : Nat} {l : List Int} (h : Row w base g c n l) : base ≤ g ∧ g < w.heap.size := h.own.lt g rfl
theorem Row.stored {w : World} {base g c n : Nat} {l : List Int} (h : Row w base g c n l) (j : Nat) {x : Int} (h0 : 0 ≤ x) (h1 : x < 4294967296) : Row (w.setCell ⟨g, j, none⟩ (.int .u32 x)) base g c n (l.set j x) :=
  ⟨h.lim.set j h0 h1, by rw [List.length_set]; exact h.len, h.small, by
    have := (h.own.stored j (.int .u32 x)).1
    rw [nums, List.map_set]; exact this⟩
theorem Row.below {w w1 : World} {base g c n : Nat} {l : List Int} (h : Row w base g c n l) (hb : Below w.heap.size w w1) : Row w1 base g c n l := ⟨h.lim, h.len, h.small, ownsRow_below h.own hb⟩
theorem Row.take {w : World} {base g c n : Nat} {l : List Int} (h : Row w base g c n l) (m : Nat) (hm : m ≤ n) : Row w base g c m (l.take m) :=
  ⟨h.lim.take m, by have := h.len; simp; omega, by have := h.small; omega, by rw [nums_take]; exact ownsRow_take h.own m hm⟩
theorem Row.base {w : World} {base base' g c n : Nat} {l : List Int} (h : Row w base g c n l) (hb : base' ≤ base) : Row w base' g c n l := ⟨h.lim, h.len, h.small, ownsRow_base h.own hb⟩
theorem Row.grown {w w' : World} {base g g' c n : Nat} {l : List Int} (h : Row w base g c n l) (hg : w.grownBy w' (some g')) (hne : g ≠ g') : Row w' base g c n l :=
  ⟨h.lim, h.len, h.small, h.own.kept hg (.inr (by simp [Value.ownBlock, hne]))⟩
theorem Row.keptAppend {w w' : World} {base b g c n : Nat} {l : List Int} (h : Row w base g c n l) (hlt : g < b) {A : Option Addr} {m d : Nat} {l2 : List Int} (ho : Own w b A m d l2) (hg : w.grownBy w' (Value.slice A m d).ownBlock) : Row w' base g c n l :=
  ⟨h.lim, h.len, h.small, h.own.kept hg (.inr (fun e => by have := (ho.own.lt g e.symm).1; omega))⟩
theorem Row.setOther {w : World} {base g g' c n : Nat} {l : List Int} (h : Row w base g c n l) (hne : g ≠ g') (j : Nat) (u : Value) : Row (w.setCell ⟨g', j, none⟩ u) base g c n l :=
  h.grown (g' := g') ⟨rfl, rfl, rfl, by simp [World.setCell], fun k _ hk => Below.heap_setCell _ _ _ _ (fun e => hk (by rw [e]))⟩ hne
theorem Own.row {w : World} {base n c : Nat} {A : Option Addr} {l : List Int} (h : Own w base A n c l) (h0 : 0 < n) : ∃ g, A = some ⟨g, 0, none⟩ ∧ Row w base g c n l := by
  obtain ⟨g, cap, hv, _, hlt⟩ := h.own.form h0
  injection hv with hA _ hc
  subst hA hc
  exact ⟨g, rfl, h.lim, h.len, h.small, h.own⟩
theorem Row.drew {w : World} {base g c n : Nat} {l : List Int} (h : Row w base g c n l) (k : Nat) : Row (w.drewN k) base g c n l := ⟨h.lim, h.len, h.small, h.own⟩
theorem Row.alloc {w : World} {base g c n : Nat} {l : List Int} (h : Row w base g c n l) (o : Obj) : Row (w.alloc o) base g c n l := h.below ((Below.refl _ _).alloc (Nat.le_refl _) o)
theorem Row.toOwn {w : World} {base g c n : Nat} {l : List Int} (h : Row w base g c n l) : Own w base (some ⟨g, 0, none⟩) n c l := ⟨h.lim, h.len, h.small, h.own⟩
theorem Row.make {w : World} {base g n : Nat} (hn : n ≤ 70368744177664) (h : w.ownsRow base 62 1 (.slice (some ⟨g, 0, none⟩) n n) n (madeCells (Value.int .u32 0).cells (n * 1)).toList) : Row w base g n n (List.replicate n 0) :=
  ⟨Lim.replicate n, by simp, hn, by
    rw [nums, List.map_replicate]
    rw [show (Value.int .u32 0).cells = #[.int .u32 0] from rfl, toList_madeCells_one, Nat.mul_one] at h
    exact h⟩
theorem below_grown {w w1 : World} (h : w.grownBy w1 none) : Below w.heap.size w w1 := ⟨h.os, h.tape, h.output, h.size, fun k hk => h.block k hk (by simp)⟩
theorem info_u32 : (Try.prog.info? 62).map (fun i => (i.zero, i.size, i.bytes)) = some (some (.int .u32 0), 1, 4) := by kernel_rfl
/-- 'make([]uint32, n)' in a walk. -/
theorem make_u32 (w : World) {ops : Array Oper} {rest : List Oper} {o : Oper} {a : Act} {Q : Exit → Act → World → Prop}
    (hg : o.guard = none) (l c : Operand) (hop : o.op = Op.makeSlice 22 l c) (n : Nat) (kl kc : IntKind) (L C : Int) (hl : a.eval l = .int kl L) (hc : a.eval c = .int kc C) (hn : n ≤ 70368744177664) (hL : L = (n : Int)) (hC : C = (n : Int))
    (hK : ∀ w', Row w' w.heap.size w.heap.size n n (List.replicate n 0) → Below w.heap.size w w' → wpList Try.prog ops Q rest (a.put o.dst (.slice (some ⟨w.heap.size, 0, none⟩) n n)) w') :
    wpList Try.prog ops Q (o :: rest) a w := by
  obtain ⟨i0, hi, hz0, hz1, hz2⟩ := info_parts info_u32
  exact wpList_make_full w hg l c 22 hop w.heap.size 62 i0 (.int .u32 0) 1 Try.underlying22 hi hz0 hz1 kl kc L C n hl hc hL hC (by rw [hz2]; omega) (by unfold maxLen; omega) (Nat.le_refl _)
    fun w' hown hgr => hK w' (Row.make hn hown) (below_grown hgr)
theorem own_slice {w : World} {base n : Nat} {e : TypeId} {size : Nat} {v : Value} {xs : List Value} (h : w.ownsRow base e size v n xs) : ∃ A c, v = .slice A n c := by
  rcases h.2 with ⟨rfl, rfl⟩ | ⟨g, cap, cur, rfl, _⟩
  · exact ⟨none, 0, rfl⟩
  · exact ⟨_, cap, rfl⟩
theorem nums_oneCell (l : List Int) : ∀ u ∈ nums l, u.oneCell' = true := by
  intro u hu
  simp only [nums, List.mem_map] at hu
  obtain ⟨x, _, rfl⟩ := hu
  rfl
theorem addr_add (b off j : Nat) : (⟨b, off, none⟩ : Addr).add j = ⟨b, off + j, none⟩ := by
  unfold Addr.add
  split <;> simp_all
theorem run_append_u32 (w : World) (base : Nat) (ty : TypeId) (A : Option Addr) (n c : Nat) (l : List Int) (hown : Own w base A n c l)
    (A' : Option Addr) (m c' : Nat) (l2 : List Int) (hr : Sl w A' m c' l2) (hs : n + m ≤ 35184372088832) (hbase : base ≤ w.heap.size) :
    ∃ A1 c1 w', (Builtin.append_ #[22, 22] ty #[.slice A n c, .slice A' m c']).run Try.prog w = .ok (.slice A1 (n + m) c1) w' ∧ Own w' base A1 (n + m) c1 (l ++ l2) ∧ w.grownBy w' (Value.slice A n c).ownBlock ∧
      ((Value.slice A1 (n + m) c1).ownBlock = (Value.slice A n c).ownBlock ∨ (Value.slice A1 (n + m) c1).ownBlock = some w.heap.size) := by
  obtain ⟨i0, hi, hz0, hz1, hz2⟩ := info_parts info_u32
  have hlen2 := hr.len
  have hlen1 := hown.len
  rcases Nat.eq_zero_or_pos m with h0 | h0
  · subst h0
    have hn : l2 = [] := List.eq_nil_of_length_eq_zero hlen2
    subst hn
    rw [List.append_nil, Nat.add_zero]
    rcases A' with _ | ad
    · refine ⟨A, c, w, ?_, hown, World.grownBy.refl w _, .inl rfl⟩
      rcases hown.own.2 with ⟨hv, hn0⟩ | ⟨g, cap, cur, hv, _, _, hnc, _⟩
      · rw [hv]
        simp [Builtin.append_, run_underlying Try.underlying22, sizeOf, typeInfo, hi, Builtin.lenOf, Builtin.firstCells]
      · rw [hv]
        simp [Builtin.append_, run_underlying Try.underlying22, sizeOf, typeInfo, hi, Builtin.lenOf, Builtin.firstCells, hnc, storeCells]
    · obtain ⟨v', w', hrun, h2, h3, _, h5⟩ := run_append_own_at (P := Try.prog) w base 22 ty 62 i0 (.int .u32 0) 1 4 Try.underlying22 hi hz0 hz1 hz2 rfl (by omega) (.slice A n c) n (nums l) hown.own ad 0 c' [] rfl (by simp) (by simp) (by unfold maxLen; omega) (by omega) hbase
      obtain ⟨A1, c1, rfl⟩ := own_slice h2
      refine ⟨A1, c1, w', by simpa using hrun, ⟨hown.lim, hown.len, hown.small, by simpa using h2⟩, h3, by simpa using h5⟩
  · obtain ⟨b, off, rfl, hlt, hc⟩ := hr.cells h0
    have hcells : ∀ j u, (nums l2)[j]? = some u → w.cell? ((⟨b, off, none⟩ : Addr).add j) = some u := by
      intro j u hu
      have hj : j < l2.length := by
        have := (List.getElem?_eq_some_iff.1 hu).1
        rwa [nums_length] at this
      rw [nums_getElem? l2 j hj] at hu
      rw [addr_add, ← hu, hc j (by omega)]
    obtain ⟨v', w', hrun, h2, h3, _, h5⟩ := run_append_own_at (P := Try.prog) w base 22 ty 62 i0 (.int .u32 0) 1 4 Try.underlying22 hi hz0 hz1 hz2 rfl (by omega) (.slice A n c) n (nums l) hown.own ⟨b, off, none⟩ m c' (nums l2) (by rw [nums_length]; omega) hcells (nums_oneCell l2) (by unfold maxLen; omega) (by omega) hbase
    obtain ⟨A1, c1, rfl⟩ := own_slice h2
    exact ⟨A1, c1, w', hrun, ⟨hown.lim.append hr.lim, by rw [List.length_append]; omega, by omega, by rw [nums, List.map_append]; exact h2⟩, h3, h5⟩
/-- 'append(xs, ys...)' onto a slice of the call's own, in a walk. -/
theorem append_u32 (w : World) {ops : Array Oper} {rest : List Oper} {o : Oper} {a : Act} {Q : Exit → Act → World → Prop} (hgd : o.guard = none) (s x : Operand)
    (ho : o.op = .call { callee := .builtin .append, args := #[s, x], argTypes := #[22, 22] }) (base : Nat) (A : Option Addr) (n c : Nat) (l : List Int) (A' : Option Addr) (m c' : Nat) (l2 : List Int)
    (hsv : a.eval s = .slice A n c) (hx : a.eval x = .slice A' m c') (hown : Own w base A n c l) (hr : Sl w A' m c' l2) (hs : n + m ≤ 35184372088832) (hbase : base ≤ w.heap.size)
    (h : ∀ A1 c1 w', Own w' base A1 (n + m) c1 (l ++ l2) → w.grownBy w' (Value.slice A n c).ownBlock → ((Value.slice A1 (n + m) c1).ownBlock = (Value.slice A n c).ownBlock ∨ (Value.slice A1 (n + m) c1).ownBlock = some w.heap.size) →
      wpList Try.prog ops Q rest (a.put o.dst (.slice A1 (n + m) c1)) w') : wpList Try.prog ops Q (o :: rest) a w := by
  obtain ⟨A1, c1, w', hrun, h1, h2, h3⟩ := run_append_u32 w base o.type A n c l hown A' m c' l2 hr hs hbase
  refine wpList_plain hgd fun _ hK => ?_
  unfold Oper.wp execOp
  simp only [ho, resolve, invoke, builtin, Sem.run_bind, Sem.run_pure, Result.andThen_ok, List.map_toArray, List.map_cons, List.map_nil, hsv, hx, hrun]
  exact hK _ _ (h A1 c1 w' h1 h2 h3)
/-- It only reads: some orders may have been drawn. -/
def RetQ (v : Value) (w : World) (e : Ending) (w' : World) : Prop := e = .returned v ∧ ∃ k, w' = w.drewN k
theorem Sl.drawn {w w' : World} {A : Option Addr} {n c : Nat} {l : List Int} (h : Sl w A n c l) (hd : ∃ k, w' = w.drewN k) : Sl w' A n c l := by
  obtain ⟨k, rfl⟩ := hd
  exact h.drewN k
theorem drawn_step {w w1 : World} (h : ∃ k, w1 = w.drewN k) (m : Nat) : ∃ k, w1.drewN m = w.drewN k := by
  obtain ⟨k, rfl⟩ := h
  exact ⟨k + m, World.drewN_drewN ..⟩
theorem below_drawn {B : Nat} {w w1 w2 : World} (h : Below B w w1) (hd : ∃ k, w2 = w1.drewN k) : Below B w w2 := by
  obtain ⟨k, rfl⟩ := hd
  exact ⟨h.os, h.tape, h.output, h.size, h.block⟩
theorem below_step {w w1 w2 : World} (h : Below w.heap.size w w1) (k : Below w1.heap.size w1 w2) : Below w.heap.size w w2 :=
  h.trans (k.mono h.size)
theorem below_append {w w1 w2 : World} (h : Below w.heap.size w w1) {base : Nat} {A : Option Addr} {n c : Nat} {l : List Int} (ho : Own w1 base A n c l) (hb : w.heap.size ≤ base) (hg : w1.grownBy w2 (Value.slice A n c).ownBlock) : Below w.heap.size w w2 :=
  h.grown hg h.size (fun k hk => Nat.le_trans hb (ho.own.lt k hk).1)

theorem grown_setCell {w wr : World} {g : Nat} (h : w.grownBy wr (some g)) (j : Nat) (u : Value) : w.grownBy (wr.setCell ⟨g, j, none⟩ u) (some g) :=
  ⟨h.os, h.tape, h.output, by have := h.size; simp [World.setCell]; omega, fun k hk hne => (Below.heap_setCell _ _ _ _ (fun e => hne (by rw [e]))).trans (h.block k hk hne)⟩
theorem grown_drewN {w wr : World} {r : Option Nat} (h : w.grownBy wr r) (n : Nat) : w.grownBy (wr.drewN n) r := ⟨h.os, h.tape, h.output, h.size, h.block⟩
theorem Sl.grown {w w' : World} {A : Option Addr} {n c g : Nat} {l : List Int} (h : Sl w A n c l) (hg : w.grownBy w' (some g)) (hne : ∀ b off, A = some ⟨b, off, none⟩ → b ≠ g) : Sl w' A n c l :=
  ⟨h.lim, h.len, h.le, h.small, fun h0 => by
    obtain ⟨b, off, e, hlt, hc⟩ := h.cells h0
    refine ⟨b, off, e, Nat.lt_of_lt_of_le hlt hg.size, fun j hj => ?_⟩
    have hb := hne b off e
    exact (World.cell?_of_block (hg.block b hlt (fun e => hb (by injection e)))).trans (hc j hj)⟩
/-- A literal '[]uint32{..}'. -/
theorem Row.lit (w : World) (l : List Int) (hl : Lim l) (hs : l.length ≤ 70368744177664) (cs : Array Value) (hcs : cs = (nums l).toArray) : Row (w.alloc (.cells cs 62)) w.heap.size w.heap.size l.length l.length l := by
  subst hcs
  exact ⟨hl, rfl, hs, by
    have := World.ownsRow_lit (base := w.heap.size) (e := 62) (size := 1) w (nums l).toArray l.length (Nat.le_refl _) (by unfold maxLen; omega) (by simp [nums])
    simpa using this⟩
theorem Row.lit1 (w : World) {x : Int} (h0 : 0 ≤ x) (h1 : x < 4294967296) : Row (w.alloc (.cells #[.int .u32 x] 62)) w.heap.size w.heap.size 1 1 [x] := Row.lit w [x] (Lim.one h0 h1) (by simp) _ rfl
/-- What a function of numbers hands back: the limbs of N in memory of its own. -/
def RetNum (N : Nat) (w : World) (e : Ending) (w' : World) : Prop := ∃ A c, e = .returned (.slice A (digs N).length c) ∧ Own w' w.heap.size A (digs N).length c (digs N) ∧ Below w.heap.size w w'
end Go.Proofs.Ytkidgeeedigkhaa
