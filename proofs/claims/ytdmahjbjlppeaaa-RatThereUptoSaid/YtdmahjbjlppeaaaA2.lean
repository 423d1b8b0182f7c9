
/- How numbers lie in memory: a slice of limbs that is read, and one that a call made. nat.trim nat.Norm, nat.Cmp nat.Bits nat.less, nat.Sub nat.Add nat.Mul nat.short nat.shl, nat.shr nat.digit nat.Div nat.Div whole, nat.Gcd, nat.Root nat.Text -/
import Derived.Test.YtdmahjbjlppeaaaProg
import Derived.Test.YtdmahjbjlppeaaaA1
import Derived.WalkKit
import Derived.Below
import Derived.Lib.Hide
import Derived.KernelRfl
import Derived.Deep.LoopGhost
import Derived.Deep.RegionHeld3
import Derived.Deep.QuietTactic
import Derived.BigQuiet
import Derived.IntWalk
import Derived.Deep.OwnRows
import Derived.Deep.AppendLies
import Derived.Maps.AppendAt
import Derived.Test.YtdmahjbjlppeaaaShelf
import Derived.Laws.BytesArg
import Derived.RegionTactic
import Derived.ChangeAlike
namespace Go.Proofs.Ytdmahjbjlppeaaa
open Go.RowKit

def nums (l : List Int) : List Value := l.map fun x => .int .u32 x
theorem nums_length (l : List Int) : (nums l).length = l.length := by simp [nums]
theorem nums_getElem? (l : List Int) (j : Nat) (h : j < l.length) : (nums l)[j]? = some (.int .u32 (l.getD j 0)) := by
  simp [nums, List.getElem?_eq_getElem h, List.getD_eq_getElem?_getD]

/-- A slice value '.slice A n c' that reads as the limbs l. -/
structure Sl (w : World) (A : Option Addr) (n c : Nat) (l : List Int) : Prop where
  lim : Lim l
  len : l.length = n
  le : n ≤ c
  small : n ≤ 70368744177664
  cells : 0 < n → ∃ b off, A = some ⟨b, off, none⟩ ∧ b < w.heap.size ∧ ∀ j, j < n → w.cell? ⟨b, off + j, none⟩ = some (.int .u32 (l.getD j 0))

theorem Sl.nil (w : World) (A : Option Addr) (c : Nat) : Sl w A 0 c [] := ⟨Lim.nil, rfl, Nat.zero_le _, by omega, fun h => absurd h (by omega)⟩
theorem Sl.below {w w1 : World} {A : Option Addr} {n c : Nat} {l : List Int} (h : Sl w A n c l) (hb : Below w.heap.size w w1) : Sl w1 A n c l :=
  ⟨h.lim, h.len, h.le, h.small, fun h0 => by
    obtain ⟨b, off, e, hlt, hc⟩ := h.cells h0
    exact ⟨b, off, e, Nat.lt_of_lt_of_le hlt hb.size, fun j hj => (hb.cell (p := ⟨b, off + j, none⟩) hlt).trans (hc j hj)⟩⟩
theorem Sl.alloc {w : World} {A : Option Addr} {n c : Nat} {l : List Int} (h : Sl w A n c l) (o : Obj) : Sl (w.alloc o) A n c l := h.below ((Below.refl _ _).alloc (Nat.le_refl _) o)
theorem Sl.drew {w : World} {A : Option Addr} {n c : Nat} {l : List Int} (h : Sl w A n c l) : Sl w.drew A n c l := ⟨h.lim, h.len, h.le, h.small, h.cells⟩
theorem Sl.drewN {w : World} {A : Option Addr} {n c : Nat} {l : List Int} (h : Sl w A n c l) (k : Nat) : Sl (w.drewN k) A n c l := ⟨h.lim, h.len, h.le, h.small, h.cells⟩
theorem Sl.take {w : World} {A : Option Addr} {n c : Nat} {l : List Int} (h : Sl w A n c l) (m : Nat) (hm : m ≤ n) : Sl w A m c (l.take m) :=
  ⟨h.lim.take m, by have := h.len; simp; omega, by have := h.le; omega, by have := h.small; omega, fun h0 => by
    obtain ⟨b, off, e, hlt, hc⟩ := h.cells (by omega)
    refine ⟨b, off, e, hlt, fun j hj => ?_⟩
    rw [hc j (by omega), List.getD_eq_getElem?_getD, List.getD_eq_getElem?_getD, List.getElem?_take, if_pos (by omega)]⟩
theorem Sl.at_ {w : World} {A : Option Addr} {n c : Nat} {l : List Int} (h : Sl w A n c l) {i : Nat} (hi : i < n) : ∃ b off, A = some ⟨b, off, none⟩ ∧ w.cell? ⟨b, off + i, none⟩ = some (.int .u32 (l.getD i 0)) := by
  obtain ⟨b, off, e, _, hc⟩ := h.cells (by omega)
  exact ⟨b, off, e, hc i hi⟩

/-- The limbs of l's number are the front of l. -/
theorem strip_take : ∀ {l : List Int}, Lim l → l.take (digs (val l)).length = digs (val l)
  | [], _ => by simp [val, digs_zero]
  | x :: xs, h => by
    by_cases h0 : val (x :: xs) = 0
    · rw [h0, digs_zero]; rfl
    · have hx := h.head
      rw [digs_pos (by omega)]
      simp only [val]
      have e1 : (x.toNat + 4294967296 * val xs) % 4294967296 = x.toNat := by omega
      have e2 : (x.toNat + 4294967296 * val xs) / 4294967296 = val xs := by omega
      rw [e1, e2, List.length_cons, List.take_succ_cons, strip_take h.tail, Int.toNat_of_nonneg hx.1]
theorem Sl.strip {w : World} {A : Option Addr} {n c : Nat} {l : List Int} (h : Sl w A n c l) : Sl w A (digs (val l)).length c (digs (val l)) := by
  have := h.take (digs (val l)).length (by have := digs_val_len h.lim; have := h.len; omega)
  rwa [strip_take h.lim] at this
theorem val_take_pred {l : List Int} {n : Nat} (hn : 0 < n) (hl : n ≤ l.length) (hz : l.getD (n - 1) 0 = 0) : val (l.take (n - 1)) = val (l.take n) := by
  obtain ⟨m, rfl⟩ : ∃ m, n = m + 1 := ⟨n - 1, by omega⟩
  simp only [Nat.add_sub_cancel] at hz ⊢
  rw [val_take_succ l m (by omega), hz]
  simp
theorem len_of_top {l : List Int} (h : Lim l) {n : Nat} (hn : 0 < n) (hl : n ≤ l.length) (hv : val (l.take n) = val l) (hz : l.getD (n - 1) 0 ≠ 0) : (digs (val l)).length = n := by
  have hc : Canon (l.take n) := by
    obtain ⟨m, rfl⟩ : ∃ m, n = m + 1 := ⟨n - 1, by omega⟩
    rw [List.take_succ_eq_append_getElem (by omega)]
    apply canon_snoc
    simp only [Nat.add_sub_cancel] at hz
    rw [List.getD_eq_getElem?_getD, List.getElem?_eq_getElem (by omega)] at hz
    exact hz
  have := canon_digs (h.take n) hc
  rw [← hv, ← this, List.length_take, Nat.min_eq_left hl]

/-- A slice of limbs in a block of the call's own, from its head on. -/
structure Own (w : World) (base : Nat) (A : Option Addr) (n c : Nat) (l : List Int) : Prop where
  lim : Lim l
  len : l.length = n
  small : n ≤ 70368744177664
  own : w.ownsRow base 68 1 (.slice A n c) n (nums l)

theorem ownsRow_below {w w1 : World} {base : Nat} {e : TypeId} {size n : Nat} {v : Value} {xs : List Value} (h : w.ownsRow base e size v n xs) (hb : Below w.heap.size w w1) : w1.ownsRow base e size v n xs :=
  h.kept (row := none) ⟨hb.os, hb.tape, hb.output, hb.size, fun i hi _ => hb.block i hi⟩ (by cases v.ownBlock <;> simp)
theorem ownsRow_base {w : World} {base base' : Nat} {e : TypeId} {size n : Nat} {v : Value} {xs : List Value} (h : w.ownsRow base e size v n xs) (hb : base' ≤ base) : w.ownsRow base' e size v n xs := by
  obtain ⟨h1, h2⟩ := h
  refine ⟨h1, ?_⟩
  rcases h2 with h2 | ⟨g, cap, cur, hv, hg, r⟩
  · exact .inl h2
  · exact .inr ⟨g, cap, cur, hv, by omega, r⟩
theorem Own.below {w w1 : World} {base : Nat} {A : Option Addr} {n c : Nat} {l : List Int} (h : Own w base A n c l) (hb : Below w.heap.size w w1) : Own w1 base A n c l := ⟨h.lim, h.len, h.small, ownsRow_below h.own hb⟩
theorem Own.base {w : World} {base base' : Nat} {A : Option Addr} {n c : Nat} {l : List Int} (h : Own w base A n c l) (hb : base' ≤ base) : Own w base' A n c l := ⟨h.lim, h.len, h.small, ownsRow_base h.own hb⟩
theorem Own.alloc {w : World} {base : Nat} {A : Option Addr} {n c : Nat} {l : List Int} (h : Own w base A n c l) (o : Obj) : Own (w.alloc o) base A n c l := h.below ((Below.refl _ _).alloc (Nat.le_refl _) o)
theorem Own.drew {w : World} {base : Nat} {A : Option Addr} {n c : Nat} {l : List Int} (h : Own w base A n c l) : Own w.drew base A n c l := ⟨h.lim, h.len, h.small, h.own⟩
theorem Own.drewN {w : World} {base : Nat} {A : Option Addr} {n c : Nat} {l : List Int} (h : Own w base A n c l) (k : Nat) : Own (w.drewN k) base A n c l := ⟨h.lim, h.len, h.small, h.own⟩
theorem Own.setLow {w : World} {base : Nat} {A : Option Addr} {n c : Nat} {l : List Int} (h : Own w base A n c l) {g : Nat} (hg : g < base) (j : Nat) (u : Value) : Own (w.setCell ⟨g, j, none⟩ u) base A n c l := ⟨h.lim, h.len, h.small, ownsRow_setCell_below h.own (a := ⟨g, j, none⟩) hg u⟩
theorem Own.nil (w : World) (base : Nat) : Own w base none 0 0 [] := ⟨Lim.nil, rfl, by omega, World.ownsRow_nil w base _ 1⟩
theorem ownsRow_cap {w : World} {base : Nat} {e : TypeId} {n c : Nat} {A : Option Addr} {xs : List Value} (h : w.ownsRow base e 1 (.slice A n c) n xs) : n ≤ c := by
  rcases h.2 with ⟨h', h0⟩ | ⟨g', cap', cur, h', _, _, hn, _⟩
  · omega
  · injection h' with _ _ h'; omega
theorem Own.sl {w : World} {base : Nat} {A : Option Addr} {n c : Nat} {l : List Int} (h : Own w base A n c l) : Sl w A n c l :=
  ⟨h.lim, h.len, ownsRow_cap h.own, h.small, fun h0 => by
    obtain ⟨g, cap, hv, _, hlt⟩ := h.own.form h0
    injection hv with hA _ hc
    subst hA hc
    exact ⟨g, 0, rfl, hlt, fun j hj => by rw [Nat.zero_add, h.own.cellAt j (by omega), nums_getElem? l j (by rw [h.len]; exact hj)]⟩⟩
theorem ownsRow_take {w : World} {base : Nat} {e : TypeId} {n c : Nat} {A : Option Addr} {xs : List Value} (h : w.ownsRow base e 1 (.slice A n c) n xs) (m : Nat) (hm : m ≤ n) : w.ownsRow base e 1 (.slice A m c) m (xs.take m) := by
  have hl := h.1
  refine ⟨by simp; omega, ?_⟩
  rcases h.2 with ⟨h', h0⟩ | ⟨g', cap', cur, h', hb, hh, hn, hc, hs, ht⟩
  · injection h' with hA _ hc
    subst hA hc
    exact .inl ⟨by congr 1; omega, by omega⟩
  · injection h' with hA _ hc'
    subst hA hc'
    refine .inr ⟨g', c, cur, rfl, hb, hh, by omega, hc, hs, ?_⟩
    rw [← ht, List.take_take]
    congr 1; omega
theorem nums_take (l : List Int) (n : Nat) : nums (l.take n) = (nums l).take n := by simp [nums, List.map_take]
theorem Own.take {w : World} {base : Nat} {A : Option Addr} {n c : Nat} {l : List Int} (h : Own w base A n c l) (m : Nat) (hm : m ≤ n) : Own w base A m c (l.take m) :=
  ⟨h.lim.take m, by have := h.len; simp; omega, by have := h.small; omega, by
    rw [nums_take]
    exact ownsRow_take h.own m hm⟩
theorem Own.strip {w : World} {base : Nat} {A : Option Addr} {n c : Nat} {l : List Int} (h : Own w base A n c l) : Own w base A (digs (val l)).length c (digs (val l)) := by
  have := h.take (digs (val l)).length (by have := digs_val_len h.lim; have := h.len; omega)
  rwa [strip_take h.lim] at this

/-- The same with the block's number told: a row that is written. -/
structure Row (w : World) (base g c n : Nat) (l : List Int) : Prop where
  lim : Lim l
  len : l.length = n
  small : n ≤ 70368744177664
  own : w.ownsRow base 68 1 (.slice (some ⟨g, 0, none⟩) n c) n (nums l)
theorem Row.cell {w : World} {base g c n : Nat} {l : List Int} (h : Row w base g c n l) (j : Nat) (hj : j < n) : w.cell? ⟨g, j, none⟩ = some (.int .u32 (l.getD j 0)) := by
  rw [h.own.cellAt j (by omega), nums_getElem? l j (by rw [h.len]; exact hj)]
theorem Row.frozen {w : World} {base g c n : Nat} {l : List Int} (h : Row w base g c n l) (j : Nat) : w.frozen? ⟨g, j, none⟩ = false := h.own.frozenAt j
theorem Row.lt {w : World} {base g c n : Nat} {l : List Int} (h : Row w base g c n l) : base ≤ g ∧ g < w.heap.size := h.own.lt g rfl
theorem Row.stored {w : World} {base g c n : Nat} {l : List Int} (h : Row w base g c n l) (j : Nat) {x : Int} (h0 : 0 ≤ x) (h1 : x < 4294967296) : Row (w.setCell ⟨g, j, none⟩ (.int .u32 x)) base g c n (l.set j x) :=
  ⟨h.lim.set j h0 h1, by rw [List.length_set]; exact h.len, h.small, by
    have := (h.own.stored j (.int .u32 x)).1
    rw [nums, List.map_set]; exact this⟩
theorem Row.below {w w1 : World} {base g c n : Nat} {l : List Int} (h : Row w base g c n l) (hb : Below w.heap.size w w1) : Row w1 base g c n l := ⟨h.lim, h.len, h.small, ownsRow_below h.own hb⟩
theorem Row.take {w : World} {base g c n : Nat} {l : List Int} (h : Row w base g c n l) (m : Nat) (hm : m ≤ n) : Row w base g c m (l.take m) :=
  ⟨h.lim.take m, by have := h.len; simp; omega, by have := h.small; omega, by rw [nums_take]; exact ownsRow_take h.own m hm⟩
theorem Row.base {w : World} {base base' g c n : Nat} {l : List Int} (h : Row w base g c n l) (hb : base' ≤ base) : Row w base' g c n l := ⟨h.lim, h.len, h.small, ownsRow_base h.own hb⟩
theorem Row.grown {w w' : World} {base g g' c n : Nat} {l : List Int} (h : Row w base g c n l) (hg : w.grownBy w' (some g')) (hne : g ≠ g') : Row w' base g c n l :=
  ⟨h.lim, h.len, h.small, h.own.kept hg (.inr (by simp [Value.ownBlock, hne]))⟩
theorem Row.keptAppend {w w' : World} {base b g c n : Nat} {l : List Int} (h : Row w base g c n l) (hlt : g < b) {A : Option Addr} {m d : Nat} {l2 : List Int} (ho : Own w b A m d l2) (hg : w.grownBy w' (Value.slice A m d).ownBlock) : Row w' base g c n l :=
  ⟨h.lim, h.len, h.small, h.own.kept hg (.inr (fun e => by have := (ho.own.lt g e.symm).1; omega))⟩
theorem Row.setOther {w : World} {base g g' c n : Nat} {l : List Int} (h : Row w base g c n l) (hne : g ≠ g') (j : Nat) (u : Value) : Row (w.setCell ⟨g', j, none⟩ u) base g c n l :=
  h.grown (g' := g') ⟨rfl, rfl, rfl, by simp [World.setCell], fun k _ hk => Below.heap_setCell _ _ _ _ (fun e => hk (by rw [e]))⟩ hne
theorem Own.row {w : World} {base n c : Nat} {A : Option Addr} {l : List Int} (h : Own w base A n c l) (h0 : 0 < n) : ∃ g, A = some ⟨g, 0, none⟩ ∧ Row w base g c n l := by
  obtain ⟨g, cap, hv, _, hlt⟩ := h.own.form h0
  injection hv with hA _ hc
  subst hA hc
  exact ⟨g, rfl, h.lim, h.len, h.small, h.own⟩
theorem Row.drew {w : World} {base g c n : Nat} {l : List Int} (h : Row w base g c n l) (k : Nat) : Row (w.drewN k) base g c n l := ⟨h.lim, h.len, h.small, h.own⟩
theorem Row.alloc {w : World} {base g c n : Nat} {l : List Int} (h : Row w base g c n l) (o : Obj) : Row (w.alloc o) base g c n l := h.below ((Below.refl _ _).alloc (Nat.le_refl _) o)
theorem Row.toOwn {w : World} {base g c n : Nat} {l : List Int} (h : Row w base g c n l) : Own w base (some ⟨g, 0, none⟩) n c l := ⟨h.lim, h.len, h.small, h.own⟩
theorem Row.make {w : World} {base g n : Nat} (hn : n ≤ 70368744177664) (h : w.ownsRow base 68 1 (.slice (some ⟨g, 0, none⟩) n n) n (madeCells (Value.int .u32 0).cells (n * 1)).toList) : Row w base g n n (List.replicate n 0) :=
  ⟨Lim.replicate n, by simp, hn, by
    rw [nums, List.map_replicate]
    rw [show (Value.int .u32 0).cells = #[.int .u32 0] from rfl, toList_madeCells_one, Nat.mul_one] at h
    exact h⟩
theorem below_grown {w w1 : World} (h : w.grownBy w1 none) : Below w.heap.size w w1 := ⟨h.os, h.tape, h.output, h.size, fun k hk => h.block k hk (by simp)⟩
theorem info_u32 : (Try.prog.info? 68).map (fun i => (i.zero, i.size, i.bytes)) = some (some (.int .u32 0), 1, 4) := by kernel_rfl
/-- 'make([]uint32, n)' in a walk. -/
theorem make_u32 (w : World) {ops : Array Oper} {rest : List Oper} {o : Oper} {a : Act} {Q : Exit → Act → World → Prop}
    (hg : o.guard = none) (l c : Operand) (hop : o.op = Op.makeSlice 22 l c) (n : Nat) (kl kc : IntKind) (L C : Int) (hl : a.eval l = .int kl L) (hc : a.eval c = .int kc C) (hn : n ≤ 70368744177664) (hL : L = (n : Int)) (hC : C = (n : Int))
    (hK : ∀ w', Row w' w.heap.size w.heap.size n n (List.replicate n 0) → Below w.heap.size w w' → wpList Try.prog ops Q rest (a.put o.dst (.slice (some ⟨w.heap.size, 0, none⟩) n n)) w') :
    wpList Try.prog ops Q (o :: rest) a w := by
  obtain ⟨i0, hi, hz0, hz1, hz2⟩ := info_parts info_u32
  exact wpList_make_full w hg l c 22 hop w.heap.size 68 i0 (.int .u32 0) 1 Try.underlying22 hi hz0 hz1 kl kc L C n hl hc hL hC (by rw [hz2]; omega) (by unfold maxLen; omega) (Nat.le_refl _)
    fun w' hown hgr => hK w' (Row.make hn hown) (below_grown hgr)
theorem own_slice {w : World} {base n : Nat} {e : TypeId} {size : Nat} {v : Value} {xs : List Value} (h : w.ownsRow base e size v n xs) : ∃ A c, v = .slice A n c := by
  rcases h.2 with ⟨rfl, rfl⟩ | ⟨g, cap, cur, rfl, _⟩
  · exact ⟨none, 0, rfl⟩
  · exact ⟨_, cap, rfl⟩
theorem nums_oneCell (l : List Int) : ∀ u ∈ nums l, u.oneCell' = true := by
  intro u hu
  simp only [nums, List.mem_map] at hu
  obtain ⟨x, _, rfl⟩ := hu
  rfl
theorem addr_add (b off j : Nat) : (⟨b, off, none⟩ : Addr).add j = ⟨b, off + j, none⟩ := by
  unfold Addr.add
  split <;> simp_all
theorem run_append_u32 (w : World) (base : Nat) (ty : TypeId) (A : Option Addr) (n c : Nat) (l : List Int) (hown : Own w base A n c l)
    (A' : Option Addr) (m c' : Nat) (l2 : List Int) (hr : Sl w A' m c' l2) (hs : n + m ≤ 35184372088832) (hbase : base ≤ w.heap.size) :
    ∃ A1 c1 w', (Builtin.append_ #[22, 22] ty #[.slice A n c, .slice A' m c']).run Try.prog w = .ok (.slice A1 (n + m) c1) w' ∧ Own w' base A1 (n + m) c1 (l ++ l2) ∧ w.grownBy w' (Value.slice A n c).ownBlock ∧
      ((Value.slice A1 (n + m) c1).ownBlock = (Value.slice A n c).ownBlock ∨ (Value.slice A1 (n + m) c1).ownBlock = some w.heap.size) := by
  obtain ⟨i0, hi, hz0, hz1, hz2⟩ := info_parts info_u32
  have hlen2 := hr.len
  have hlen1 := hown.len
  rcases Nat.eq_zero_or_pos m with h0 | h0
  · subst h0
    have hn : l2 = [] := List.eq_nil_of_length_eq_zero hlen2
    subst hn
    rw [List.append_nil, Nat.add_zero]
    rcases A' with _ | ad
    · refine ⟨A, c, w, ?_, hown, World.grownBy.refl w _, .inl rfl⟩
      rcases hown.own.2 with ⟨hv, hn0⟩ | ⟨g, cap, cur, hv, _, _, hnc, _⟩
      · rw [hv]
        simp [Builtin.append_, run_underlying Try.underlying22, sizeOf, typeInfo, hi, Builtin.lenOf, Builtin.firstCells]
      · rw [hv]
        simp [Builtin.append_, run_underlying Try.underlying22, sizeOf, typeInfo, hi, Builtin.lenOf, Builtin.firstCells, hnc, storeCells]
    · obtain ⟨v', w', hrun, h2, h3, _, h5⟩ := run_append_own_at (P := Try.prog) w base 22 ty 68 i0 (.int .u32 0) 1 4 Try.underlying22 hi hz0 hz1 hz2 rfl (by omega) (.slice A n c) n (nums l) hown.own ad 0 c' [] rfl (by simp) (by simp) (by unfold maxLen; omega) (by omega) hbase
      obtain ⟨A1, c1, rfl⟩ := own_slice h2
      refine ⟨A1, c1, w', by simpa using hrun, ⟨hown.lim, hown.len, hown.small, by simpa using h2⟩, h3, by simpa using h5⟩
  · obtain ⟨b, off, rfl, hlt, hc⟩ := hr.cells h0
    have hcells : ∀ j u, (nums l2)[j]? = some u → w.cell? ((⟨b, off, none⟩ : Addr).add j) = some u := by
      intro j u hu
      have hj : j < l2.length := by
        have := (List.getElem?_eq_some_iff.1 hu).1
        rwa [nums_length] at this
      rw [nums_getElem? l2 j hj] at hu
      rw [addr_add, ← hu, hc j (by omega)]
    obtain ⟨v', w', hrun, h2, h3, _, h5⟩ := run_append_own_at (P := Try.prog) w base 22 ty 68 i0 (.int .u32 0) 1 4 Try.underlying22 hi hz0 hz1 hz2 rfl (by omega) (.slice A n c) n (nums l) hown.own ⟨b, off, none⟩ m c' (nums l2) (by rw [nums_length]; omega) hcells (nums_oneCell l2) (by unfold maxLen; omega) (by omega) hbase
    obtain ⟨A1, c1, rfl⟩ := own_slice h2
    exact ⟨A1, c1, w', hrun, ⟨hown.lim.append hr.lim, by rw [List.length_append]; omega, by omega, by rw [nums, List.map_append]; exact h2⟩, h3, h5⟩
/-- 'append(xs, ys...)' onto a slice of the call's own, in a walk. -/
theorem append_u32 (w : World) {ops : Array Oper} {rest : List Oper} {o : Oper} {a : Act} {Q : Exit → Act → World → Prop} (hgd : o.guard = none) (s x : Operand)
    (ho : o.op = .call { callee := .builtin .append, args := #[s, x], argTypes := #[22, 22] }) (base : Nat) (A : Option Addr) (n c : Nat) (l : List Int) (A' : Option Addr) (m c' : Nat) (l2 : List Int)
    (hsv : a.eval s = .slice A n c) (hx : a.eval x = .slice A' m c') (hown : Own w base A n c l) (hr : Sl w A' m c' l2) (hs : n + m ≤ 35184372088832) (hbase : base ≤ w.heap.size)
    (h : ∀ A1 c1 w', Own w' base A1 (n + m) c1 (l ++ l2) → w.grownBy w' (Value.slice A n c).ownBlock → ((Value.slice A1 (n + m) c1).ownBlock = (Value.slice A n c).ownBlock ∨ (Value.slice A1 (n + m) c1).ownBlock = some w.heap.size) →
      wpList Try.prog ops Q rest (a.put o.dst (.slice A1 (n + m) c1)) w') : wpList Try.prog ops Q (o :: rest) a w := by
  obtain ⟨A1, c1, w', hrun, h1, h2, h3⟩ := run_append_u32 w base o.type A n c l hown A' m c' l2 hr hs hbase
  refine wpList_plain hgd fun _ hK => ?_
  unfold Oper.wp execOp
  simp only [ho, resolve, invoke, builtin, Sem.run_bind, Sem.run_pure, Result.andThen_ok, List.map_toArray, List.map_cons, List.map_nil, hsv, hx, hrun]
  exact hK _ _ (h A1 c1 w' h1 h2 h3)
/-- It only reads: some orders may have been drawn. -/
def RetQ (v : Value) (w : World) (e : Ending) (w' : World) : Prop := e = .returned v ∧ ∃ k, w' = w.drewN k
theorem Sl.drawn {w w' : World} {A : Option Addr} {n c : Nat} {l : List Int} (h : Sl w A n c l) (hd : ∃ k, w' = w.drewN k) : Sl w' A n c l := by
  obtain ⟨k, rfl⟩ := hd
  exact h.drewN k
theorem drawn_step {w w1 : World} (h : ∃ k, w1 = w.drewN k) (m : Nat) : ∃ k, w1.drewN m = w.drewN k := by
  obtain ⟨k, rfl⟩ := h
  exact ⟨k + m, World.drewN_drewN ..⟩
theorem below_drawn {B : Nat} {w w1 w2 : World} (h : Below B w w1) (hd : ∃ k, w2 = w1.drewN k) : Below B w w2 := by
  obtain ⟨k, rfl⟩ := hd
  exact ⟨h.os, h.tape, h.output, h.size, h.block⟩
theorem below_step {w w1 w2 : World} (h : Below w.heap.size w w1) (k : Below w1.heap.size w1 w2) : Below w.heap.size w w2 :=
  h.trans (k.mono h.size)
theorem below_append {w w1 w2 : World} (h : Below w.heap.size w w1) {base : Nat} {A : Option Addr} {n c : Nat} {l : List Int} (ho : Own w1 base A n c l) (hb : w.heap.size ≤ base) (hg : w1.grownBy w2 (Value.slice A n c).ownBlock) : Below w.heap.size w w2 :=
  h.grown hg h.size (fun k hk => Nat.le_trans hb (ho.own.lt k hk).1)

theorem grown_setCell {w wr : World} {g : Nat} (h : w.grownBy wr (some g)) (j : Nat) (u : Value) : w.grownBy (wr.setCell ⟨g, j, none⟩ u) (some g) :=
  ⟨h.os, h.tape, h.output, by have := h.size; simp [World.setCell]; omega, fun k hk hne => (Below.heap_setCell _ _ _ _ (fun e => hne (by rw [e]))).trans (h.block k hk hne)⟩
theorem grown_drewN {w wr : World} {r : Option Nat} (h : w.grownBy wr r) (n : Nat) : w.grownBy (wr.drewN n) r := ⟨h.os, h.tape, h.output, h.size, h.block⟩
theorem Sl.grown {w w' : World} {A : Option Addr} {n c g : Nat} {l : List Int} (h : Sl w A n c l) (hg : w.grownBy w' (some g)) (hne : ∀ b off, A = some ⟨b, off, none⟩ → b ≠ g) : Sl w' A n c l :=
  ⟨h.lim, h.len, h.le, h.small, fun h0 => by
    obtain ⟨b, off, e, hlt, hc⟩ := h.cells h0
    refine ⟨b, off, e, Nat.lt_of_lt_of_le hlt hg.size, fun j hj => ?_⟩
    have hb := hne b off e
    exact (World.cell?_of_block (hg.block b hlt (fun e => hb (by injection e)))).trans (hc j hj)⟩
/-- A literal '[]uint32{..}'. -/
theorem Row.lit (w : World) (l : List Int) (hl : Lim l) (hs : l.length ≤ 70368744177664) (cs : Array Value) (hcs : cs = (nums l).toArray) : Row (w.alloc (.cells cs 68)) w.heap.size w.heap.size l.length l.length l := by
  subst hcs
  exact ⟨hl, rfl, hs, by
    have := World.ownsRow_lit (base := w.heap.size) (e := 68) (size := 1) w (nums l).toArray l.length (Nat.le_refl _) (by unfold maxLen; omega) (by simp [nums])
    simpa using this⟩
theorem Row.lit1 (w : World) {x : Int} (h0 : 0 ≤ x) (h1 : x < 4294967296) : Row (w.alloc (.cells #[.int .u32 x] 68)) w.heap.size w.heap.size 1 1 [x] := Row.lit w [x] (Lim.one h0 h1) (by simp) _ rfl
/-- What a function of numbers hands back: the limbs of N in memory of its own. -/
def RetNum (N : Nat) (w : World) (e : Ending) (w' : World) : Prop := ∃ A c, e = .returned (.slice A (digs N).length c) ∧ Own w' w.heap.size A (digs N).length c (digs N) ∧ Below w.heap.size w w'
end Go.Proofs.Ytdmahjbjlppeaaa

namespace Go.Proofs.Ytdmahjbjlppeaaa
open Go.RowKit

set_option maxHeartbeats 400000 in
theorem trim_calls (w : World) (A : Option Addr) (n0 c : Nat) (l : List Int) (h : Sl w A n0 c l) :
    Calls Try.prog 100 #[.slice A n0 c] w fun e w' => e = .returned (.slice A (digs (val l)).length c) ∧ w = w' := by
  have hle := h.le
  obtain rfl := h.len
  have hsm := h.small
  go_enter Try.func100, Try.ntmps100
  go_wp2
  go_loop [0] (fun s => ∃ n, n ≤ l.length ∧ Hid (val (l.take n) = val l) ∧ s = .slice A n c) (fun s => match s with | .slice _ n _ => n | _ => 0)
  case atStart => exact ⟨l.length, Nat.le_refl _, by unfold Hid; rw [List.take_length], rfl⟩
  case round =>
    obtain ⟨n, hn, hv, rfl⟩ := hrel
    by_cases h0 : n = 0
    · subst h0
      have e0 : (digs (val l)).length = 0 := by rw [← hv.out]; simp [val, digs_zero]
      have E0 := Lib.hid e0
      clear e0
      go_wp2
      go_ret
      exact ⟨by rw [E0.out]; rfl, rfl⟩
    · obtain ⟨b, off, rfl, hc⟩ := h.at_ (i := n - 1) (by omega)
      have hp : 0 < n := by omega
      clear h0
      by_cases hz : l.getD (n - 1) 0 = 0
      · have e1 := val_take_pred hp hn hz
        have E1 := Lib.hid e1
        clear e1
        rw [hz] at hc
        clear hz
        go_wp2
        go_round
        case rel => exact ⟨n - 1, by omega, by unfold Hid; rw [E1.out]; exact hv, rfl⟩
        case measure => simp; omega
      · have e1 := len_of_top h.lim hp hn hv.out hz
        have E1 := Lib.hid e1
        clear e1
        generalize l.getD (n - 1) 0 = x at hc hz
        have hz' : (x == 0) = false := by simpa using hz
        clear hz
        go_wp2
        go_ret
        exact ⟨by rw [E1.out]; rfl, rfl⟩
end Go.Proofs.Ytdmahjbjlppeaaa

namespace Go.Proofs.Ytdmahjbjlppeaaa
open Go.RowKit

set_option maxHeartbeats 400000 in
theorem norm_calls (w : World) (A : Option Addr) (n c : Nat) (l : List Int) (h : Sl w A n c l) (hs : n ≤ 35184372088832) :
    Calls Try.prog 101 #[.slice A n c] w (RetNum (val l) w) := by
  have hlen := h.len
  have hdl := digs_val_len h.lim
  go_enter Try.func101, Try.ntmps101
  go_wp2_with (first | (go_at_call 100; refine (trim_calls _ _ _ _ _ h).mono ?_; rintro e w' ⟨rfl, rfl⟩) | (at_builtin; refine append_u32 w rfl _ _ rfl w.heap.size none 0 0 [] A (digs (val l)).length c (digs (val l)) rfl rfl (Own.nil w _) h.strip ?_ (Nat.le_refl _) ?_; omega; intro A1 c1 w1 ho hg _))
  go_ret
  rw [List.nil_append] at ho
  rw [Nat.zero_add] at ho
  exact ⟨_, _, rfl, ho, (Below.refl _ _).grown hg (Nat.le_refl _) (by simp [Value.ownBlock])⟩

set_option maxHeartbeats 1000000 in
theorem cmp_calls (w : World) (A : Option Addr) (n c : Nat) (la : List Int) (A' : Option Addr) (n' c' : Nat) (lb : List Int) (ha : Sl w A n c la) (hb : Sl w A' n' c' lb) :
    Calls Try.prog 90 #[.slice A n c, .slice A' n' c'] w (RetQ (.int .i64 (cmpN (val la) (val lb))) w) := by
  have hX := ha.strip
  have hY := hb.strip
  have eX := val_digs (val la)
  have eY := val_digs (val lb)
  have hlX := hX.small
  have hlY := hY.small
  have hgt := @lt_of_digs_len (val la) (val lb)
  have hgt' := @lt_of_digs_len (val lb) (val la)
  go_enter Try.func90, Try.ntmps90
  go_wp2_with fail
  refine (trim_calls _ _ _ _ _ ha).mono ?_
  rintro e w' ⟨rfl, rfl⟩
  go_wp2_with fail
  refine (trim_calls _ _ _ _ _ hb).mono ?_
  rintro e w' ⟨rfl, rfl⟩
  clear ha hb
  generalize val la = a at *
  generalize val lb = b at *
  generalize digs a = X at *
  generalize digs b = Y at *
  subst eX eY
  by_cases hlt : X.length < Y.length
  · have e1 := Lib.hid (cmpN_lt (hgt hlt))
    clear hgt hgt'
    go_wp2
    go_ret
    exact ⟨by rw [e1.out]; rfl, 0, rfl⟩
  · by_cases hlt2 : Y.length < X.length
    · have e1 := Lib.hid (cmpN_gt (hgt' hlt2))
      clear hgt hgt'
      go_wp2
      go_ret
      exact ⟨by rw [e1.out]; rfl, 0, rfl⟩
    · clear hgt hgt'
      have hl : X.length = Y.length := by omega
      have HL := Lib.hid hl
      clear hlt hlt2
      rw [← hl] at hY hlY ⊢
      clear hl
      go_wp2
      go_loopw [5] (fun iv wr => ∃ j : Nat, j ≤ X.length ∧ iv = .int .i64 (j - 1) ∧ Hid (val (X.drop j) = val (Y.drop j)) ∧ Hid (∃ k, wr = w.drewN k)) (fun iv _ => (intOf iv + 1).toNat)
      case atStart => exact ⟨X.length, Nat.le_refl _, rfl, by unfold Hid; rw [List.drop_length, HL.out, List.drop_length], 0, rfl⟩
      case round =>
        obtain ⟨j, hj, rfl, hv, hd⟩ := hrel
        by_cases h0 : j = 0
        · subst h0
          have e1 := Lib.hid (show cmpN (val X) (val Y) = 0 by have := hv.out; simp only [List.drop_zero] at this; rw [this]; exact cmpN_eq _)
          go_wp2
          go_ret
          exact ⟨by rw [e1.out]; rfl, hd.out⟩
        · obtain ⟨i, rfl⟩ : ∃ i, j = i + 1 := ⟨j - 1, by omega⟩
          clear h0
          obtain ⟨b, off, rfl, hcX⟩ := (hX.drawn hd.out).at_ (i := i) (by omega)
          obtain ⟨b', off', rfl, hcY⟩ := (hY.drawn hd.out).at_ (i := i) (by omega)
          have e0 : ((i + 1 : Nat) : Int) - 1 = i := by omega
          rw [e0]
          clear e0
          have hlt1 := Lib.hid (val_lt_of_top hX.lim i (by omega) (by have := HL.out; omega) hY.lim hv.out)
          have hlt2 := Lib.hid (val_lt_of_top hY.lim i (by have := HL.out; omega) (by omega) hX.lim hv.out.symm)
          have hd1 := val_drop_eq X i (by omega)
          have hd2 := val_drop_eq Y i (by have := HL.out; omega)
          have heq := Lib.hid (show X.getD i 0 = Y.getD i 0 → val (X.drop i) = val (Y.drop i) by intro e; rw [hd1, hd2, e, hv.out])
          clear hd1 hd2
          generalize X.getD i 0 = x at *
          generalize Y.getD i 0 = y at *
          by_cases hxy : x = y
          · subst hxy
            have he := Lib.hid (heq.out rfl)
            clear heq hlt1 hlt2
            go_wp2
            go_quiet (fail)
            go_wp2
            go_roundw
            case rel => exact ⟨i, by omega, rfl, he, drawn_step hd.out _⟩
            case measure => simp [intOf] <;> omega
          · have hne : (x == y) = false := by simpa using hxy
            have hne' : (x != y) = true := by simpa using hxy
            clear heq
            by_cases hlt : x < y
            · have e1 := Lib.hid (cmpN_lt (hlt1.out hlt))
              clear hlt1 hlt2 hxy
              go_wp2
              go_quiet (fail)
              go_wp2
              go_quiet (fail)
              go_wp2
              go_ret
              exact ⟨by rw [e1.out]; rfl, drawn_step (drawn_step hd.out _) _⟩
            · have e1 := Lib.hid (cmpN_gt (hlt2.out (by omega)))
              clear hlt1 hlt2 hxy
              go_wp2
              go_quiet (fail)
              go_wp2
              go_quiet (fail)
              go_wp2
              go_ret
              exact ⟨by rw [e1.out]; rfl, drawn_step (drawn_step hd.out _) _⟩
end Go.Proofs.Ytdmahjbjlppeaaa

namespace Go.Proofs.Ytdmahjbjlppeaaa
open Go.RowKit

theorem len32_calls (x : Int) (w : World) (h0 : 0 ≤ x) (h1 : x < 4294967296) :
    Calls Try.prog 107 #[.int .u32 x] w fun e w' => e = .returned (.int .i64 (blen x.toNat)) ∧ w = w' :=
  (Try.bits_Len32 x w h0 (by omega)).mono fun _ _ ⟨h, h'⟩ => ⟨by rw [h, bitLen_blen _ (by omega)], h'.symm⟩

set_option maxHeartbeats 400000 in
theorem bits_calls (w : World) (A : Option Addr) (n c : Nat) (l : List Int) (h : Sl w A n c l) :
    Calls Try.prog 77 #[.slice A n c] w fun e w' => e = .returned (.int .i64 (blen (val l))) ∧ w = w' := by
  have hS := h.strip
  go_enter Try.func77, Try.ntmps77
  go_wp2_with fail
  refine (trim_calls _ _ _ _ _ h).mono ?_
  rintro e w' ⟨rfl, rfl⟩
  have hv := val_digs (val l)
  rcases Nat.eq_zero_or_pos (digs (val l)).length with h0 | h0
  · have e1 := Lib.hid (show blen (val l) = 0 by rw [← hv, List.eq_nil_of_length_eq_zero h0]; rfl)
    rw [h0]
    clear h0 hv
    go_wp2
    go_ret
    exact ⟨by rw [e1.out]; rfl, rfl⟩
  · obtain ⟨m, hm⟩ : ∃ m, (digs (val l)).length = m + 1 := ⟨_, (Nat.sub_add_cancel h0).symm⟩
    obtain ⟨b, off, rfl, hc⟩ := hS.at_ (i := m) (by omega)
    have hx := hS.lim.getD m
    have e1 := blen_top hS.lim hm (top_ne_zero hm)
    rw [hv] at e1
    rw [hm]
    have e1 := Lib.hid e1
    have hsm := hS.small
    have hbl : blen ((digs (val l)).getD m 0).toNat ≤ 32 := blen_le_iff.2 (by omega)
    clear hv h0
    generalize (digs (val l)).getD m 0 = x at *
    have hm' : m < 70368744177664 := by omega
    clear hm hsm
    go_wp2_with (go_at_call 107; refine (len32_calls _ _ hx.1 hx.2).mono ?_; rintro e w' ⟨rfl, rfl⟩)
    go_ret
    exact ⟨by rw [e1.out]; simp, rfl⟩

theorem sub2 (x b y : Int) (hx : 0 ≤ x ∧ x < 4294967296) (hb : 0 ≤ b ∧ b ≤ 1) (hy : 0 ≤ y ∧ y < 4294967296) :
    IntKind.u64.wrap (IntKind.u64.wrap (x - b) - y) % 4294967296 = (x - b - y) % 4294967296 ∧ IntKind.u64.wrap (IntKind.u64.wrap (x - b) - y) / 9223372036854775808 = if x - b - y < 0 then 1 else 0 := by
  rw [IntKind.wrap_u64, IntKind.wrap_u64]
  refine ⟨by omega, ?_⟩
  split <;> omega
theorem sub1 (x b : Int) (hx : 0 ≤ x ∧ x < 4294967296) (hb : 0 ≤ b ∧ b ≤ 1) :
    IntKind.u64.wrap (x - b) % 4294967296 = (x - b) % 4294967296 ∧ IntKind.u64.wrap (x - b) / 9223372036854775808 = if x - b < 0 then 1 else 0 := by
  rw [IntKind.wrap_u64]
  refine ⟨by omega, ?_⟩
  split <;> omega

/-- A number and an error number: what Sub and Shl hand back. -/
def RetNumE (N : Nat) (k : Int) (w : World) (e : Ending) (w' : World) : Prop := ∃ A c, e = .returned (.tuple #[.slice A (digs N).length c, .int .i64 k]) ∧ Own w' w.heap.size A (digs N).length c (digs N) ∧ Below w.heap.size w w'

end Go.Proofs.Ytdmahjbjlppeaaa

namespace Go.Proofs.Ytdmahjbjlppeaaa
open Go.RowKit

set_option maxHeartbeats 1000000 in
theorem less_calls (w : World) (A : Option Addr) (n c : Nat) (X : List Int) (A' : Option Addr) (n' c' : Nat) (Y : List Int) (hX : Sl w A n c X) (hY : Sl w A' n' c' Y) (hYX : n' ≤ n) (hle : val Y ≤ val X) :
    Calls Try.prog 110 #[.slice A n c, .slice A' n' c'] w (RetNum (val X - val Y) w) := by
  have hsm := hX.small
  obtain rfl := hX.len
  obtain rfl := hY.len
  go_enter Try.func110, Try.ntmps110
  go_wp2_with (at_make; refine make_u32 _ rfl _ _ rfl X.length _ _ _ _ rfl rfl ?_ ?_ ?_ ?_; (iterate 3 omega); intro w1 hR hB)
  go_loopw [6, 14] (fun cv iv wr => ∃ (k : Nat) (o : List Int) (cy : Int), k ≤ X.length ∧ cv = .int .u64 cy ∧ iv = .int .i64 k ∧ Hid (LessInv X Y o k cy) ∧ 0 ≤ cy ∧ cy ≤ 1 ∧ Row wr w.heap.size w.heap.size X.length X.length o ∧ Below w.heap.size w wr) (fun _ iv _ => X.length - (intOf iv).toNat)
  case atStart => exact ⟨0, _, 0, Nat.zero_le _, rfl, rfl, ⟨by omega, by omega, by simp [val]⟩, by omega, by omega, hR, hB⟩
  case round =>
    clear hR hB
    obtain ⟨k, o, cy, hk, rfl, rfl, hinv, hc0, hc1, hR, hB⟩ := hrel
    by_cases hlt : k < X.length
    · obtain ⟨b, off, rfl, hcX⟩ := (hX.below hB).at_ hlt
      have hcO := hR.cell k (by omega)
      have hfO := hR.frozen k
      have hsz := hR.lt
      have hstep := hinv.out.step hX.lim hY.lim (show k < o.length by rw [hR.len]; omega)
      have hx := hX.lim.getD k
      have hy := hY.lim.getD k
      have hZ := Row.stored hR k (x := (X.getD k 0 - cy - Y.getD k 0) % 4294967296) (by omega) (by omega)
      have Hstep := Lib.hid hstep
      have hB2 := hB.setCell (p := ⟨w.heap.size, k, none⟩) (Nat.le_refl _) (.int .u32 ((X.getD k 0 - cy - Y.getD k 0) % 4294967296))
      clear hstep
      by_cases hky : k < Y.length
      · obtain ⟨b', off', rfl, hcY⟩ := (hY.below hB).at_ hky
        generalize X.getD k 0 = x at *
        generalize Y.getD k 0 = y at *
        obtain ⟨e1, e2⟩ := sub2 x cy y (by omega) (by omega) (by omega)
        rw [← e1] at hZ hB2
        rw [← e1, ← e2] at Hstep
        clear e1 e2
        go_wp2
        go_roundw
        case rel => exact ⟨k + 1, _, _, by omega, rfl, by go_num, Hstep, by have := Hstep.out.b0; omega, by have := Hstep.out.b1; omega, hZ, hB2⟩
        case measure => simp [intOf] <;> omega
      · have hy0 : Y.getD k 0 = 0 := by rw [List.getD_eq_getElem?_getD, List.getElem?_eq_none (by omega)]; rfl
        rw [hy0, Int.sub_zero] at hZ Hstep hB2
        clear hy hy0
        generalize X.getD k 0 = x at *
        obtain ⟨e1, e2⟩ := sub1 x cy (by omega) (by omega)
        rw [← e1] at hZ hB2
        rw [← e1, ← e2] at Hstep
        clear e1 e2
        go_wp2
        go_roundw
        case rel => exact ⟨k + 1, _, _, by omega, rfl, by go_num, Hstep, by have := Hstep.out.b0; omega, by have := Hstep.out.b1; omega, hZ, hB2⟩
        case measure => simp [intOf] <;> omega
    · obtain rfl : k = X.length := by omega
      have hlast := hinv.out.last hR.len rfl hYX hR.lim hle
      have Hlast := Lib.hid hlast
      clear hlast
      go_wp2_with (go_at_call 100; refine (trim_calls _ _ _ _ _ hR.toOwn.sl).mono ?_; rintro e w' ⟨rfl, rfl⟩)
      rw [Hlast.out]
      go_ret
      have hO := hR.toOwn.strip
      rw [Hlast.out] at hO
      exact ⟨_, _, rfl, hO, hB⟩

set_option maxHeartbeats 400000 in
theorem sub_calls (w : World) (A : Option Addr) (n c : Nat) (X : List Int) (A' : Option Addr) (n' c' : Nat) (Y : List Int) (hX : Sl w A n c X) (hY : Sl w A' n' c' Y) (hle : val Y ≤ val X) :
    Calls Try.prog 93 #[.slice A n c, .slice A' n' c'] w (RetNumE (val X - val Y) 0 w) := by
  have hc0 : 0 ≤ cmpN (val X) (val Y) := by unfold cmpN; split <;> (try split) <;> omega
  generalize hg : cmpN (val X) (val Y) = r at hc0
  have Hg := Lib.hid hg
  clear hg
  go_enter Try.func93, Try.ntmps93
  go_wp2_with fail
  refine (cmp_calls _ _ _ _ _ _ _ _ _ hX hY).mono ?_
  rintro e w1 ⟨rfl, hd⟩
  rw [Hg.out]
  have hX1 := hX.drawn hd
  have hY1 := hY.drawn hd
  have hB := below_drawn (Below.refl w.heap.size w) hd
  go_wp2_with fail
  refine (trim_calls _ _ _ _ _ hX1).mono ?_
  rintro e w' ⟨rfl, rfl⟩
  go_wp2_with fail
  refine (trim_calls _ _ _ _ _ hY1).mono ?_
  rintro e w' ⟨rfl, rfl⟩
  go_wp2_with fail
  refine (less_calls _ _ _ _ _ _ _ _ _ hX1.strip hY1.strip (digs_len_mono hle) (by rw [val_digs, val_digs]; exact hle)).mono ?_
  rintro e w2 ⟨A1, c1, rfl, hO, hB2⟩
  go_wp2
  rw [val_digs, val_digs] at hO ⊢
  go_ret2
  exact ⟨_, _, rfl, hO.base hB.size, below_step hB hB2⟩

set_option maxHeartbeats 400000 in
theorem sub_below (w : World) (A : Option Addr) (n c : Nat) (X : List Int) (A' : Option Addr) (n' c' : Nat) (Y : List Int) (hX : Sl w A n c X) (hY : Sl w A' n' c' Y) (hlt : val X < val Y) :
    Calls Try.prog 93 #[.slice A n c, .slice A' n' c'] w (RetNumE 0 10 w) := by
  have hg : cmpN (val X) (val Y) = -1 := cmpN_lt hlt
  have Hg := Lib.hid hg
  clear hg
  go_enter Try.func93, Try.ntmps93
  go_wp2_with fail
  refine (cmp_calls _ _ _ _ _ _ _ _ _ hX hY).mono ?_
  rintro e w1 ⟨rfl, hd⟩
  rw [Hg.out]
  go_wp2
  go_ret2
  refine ⟨none, 0, by rw [digs_zero]; rfl, ?_, below_drawn (Below.refl w.heap.size w) hd⟩
  rw [digs_zero]
  exact Own.nil _ _
end Go.Proofs.Ytdmahjbjlppeaaa

namespace Go.Proofs.Ytdmahjbjlppeaaa
open Go.RowKit

set_option maxHeartbeats 1000000 in
set_option maxRecDepth 100000 in
theorem add_calls (w : World) (A : Option Addr) (n c : Nat) (la : List Int) (A' : Option Addr) (n' c' : Nat) (lb : List Int) (ha : Sl w A n c la) (hb : Sl w A' n' c' lb) (hla : n < 70368744177664) (hlb : n' < 70368744177664) (N : Nat) (hN : val la + val lb = N) :
    Calls Try.prog 92 #[.slice A n c, .slice A' n' c'] w (RetNum N w) := by
  obtain rfl := ha.len
  obtain rfl := hb.len
  go_enter Try.func92, Try.ntmps92
  by_cases hlt : la.length < lb.length
  · go_wp2_with (at_make; refine make_u32 _ rfl _ _ rfl (lb.length + 1) _ _ _ _ rfl rfl ?_ ?_ ?_ ?_; (iterate 3 omega); intro w1 hR hB)
    generalize lb = X at *
    generalize la = Y at *
    generalize A' = AX at *
    generalize A = AY at *
    generalize c' = cX at *
    generalize c = cY at *
    have hX := hb
    have hY := ha
    have hYX : Y.length ≤ X.length := by omega
    have hXs := hlb
    clear hlt ha hb hla hlb
    have HN := Lib.hid ((Nat.add_comm _ _).trans hN)
    clear hN
    go_loopw [6, 21] (fun cv iv wr => ∃ (k : Nat) (o : List Int) (cy : Int), k ≤ X.length ∧ cv = .int .u64 cy ∧ iv = .int .i64 k ∧ Hid (AddInv X Y o k cy) ∧ 0 ≤ cy ∧ cy ≤ 1 ∧ Row wr w.heap.size w.heap.size (X.length + 1) (X.length + 1) o ∧ Below w.heap.size w wr) (fun _ iv _ => X.length - (intOf iv).toNat)
    case atStart => exact ⟨0, _, 0, Nat.zero_le _, rfl, rfl, ⟨by omega, by omega, by simp [val]⟩, by omega, by omega, hR, hB⟩
    case round =>
      clear hR hB
      obtain ⟨k, o, cy, hk, rfl, rfl, hinv, hc0, hc1, hR, hB⟩ := hrel
      by_cases hlt : k < X.length
      · obtain ⟨b, off, rfl, hcX⟩ := (hX.below hB).at_ hlt
        have hcO := hR.cell k (by omega)
        have hfO := hR.frozen k
        have hsz := hR.lt
        have hstep := hinv.out.step hX.lim hY.lim (show k < o.length by rw [hR.len]; omega)
        have hx := hX.lim.getD k
        have hy := hY.lim.getD k
        have hZ := Row.stored hR k (x := (cy + X.getD k 0 + Y.getD k 0) % 4294967296) (by omega) (by omega)
        have Hstep := Lib.hid hstep
        have hB2 := hB.setCell (p := ⟨w.heap.size, k, none⟩) (Nat.le_refl _) (.int .u32 ((cy + X.getD k 0 + Y.getD k 0) % 4294967296))
        clear hstep
        by_cases hky : k < Y.length
        · obtain ⟨b', off', rfl, hcY⟩ := (hY.below hB).at_ hky
          generalize X.getD k 0 = x at *
          generalize Y.getD k 0 = y at *
          go_wp2
          go_roundw
          case rel => exact ⟨k + 1, _, _, by omega, rfl, by go_num, Hstep, by omega, by omega, hZ, hB2⟩
          case measure => simp [intOf]; omega
        · have hy0 : Y.getD k 0 = 0 := by rw [List.getD_eq_getElem?_getD, List.getElem?_eq_none (by omega)]; rfl
          rw [hy0, Int.add_zero] at hZ Hstep hB2
          clear hy hy0
          generalize X.getD k 0 = x at *
          go_wp2
          go_roundw
          case rel => exact ⟨k + 1, _, _, by omega, rfl, by go_num, Hstep, by omega, by omega, hZ, hB2⟩
          case measure => simp [intOf]; omega
      · obtain rfl : k = X.length := by omega
        have hcO := hR.cell X.length (by omega)
        have hfO := hR.frozen X.length
        have hsz := hR.lt
        have hZ := Row.stored hR X.length (x := cy) hc0 (by omega)
        have hlast := (hinv.out.last hR.len rfl hYX).trans HN.out
        have Hlast := Lib.hid hlast
        have hB2 := hB.setCell (p := ⟨w.heap.size, X.length, none⟩) (Nat.le_refl _) (.int .u32 cy)
        clear hlast
        go_wp2_with (go_at_call 100; refine (trim_calls _ _ _ _ _ hZ.toOwn.sl).mono ?_; rintro e w' ⟨rfl, rfl⟩)
        rw [Hlast.out]
        go_ret
        have hO := hZ.toOwn.strip
        rw [Hlast.out] at hO
        exact ⟨_, _, rfl, hO, hB2⟩
  · go_wp2_with (at_make; refine make_u32 _ rfl _ _ rfl (la.length + 1) _ _ _ _ rfl rfl ?_ ?_ ?_ ?_; (iterate 3 omega); intro w1 hR hB)
    generalize la = X at *
    generalize lb = Y at *
    generalize A = AX at *
    generalize A' = AY at *
    generalize c = cX at *
    generalize c' = cY at *
    have hX := ha
    have hY := hb
    have hYX : Y.length ≤ X.length := by omega
    have hXs := hla
    have HN := Lib.hid hN
    clear hlt ha hb hla hlb hN
    go_loopw [6, 21] (fun cv iv wr => ∃ (k : Nat) (o : List Int) (cy : Int), k ≤ X.length ∧ cv = .int .u64 cy ∧ iv = .int .i64 k ∧ Hid (AddInv X Y o k cy) ∧ 0 ≤ cy ∧ cy ≤ 1 ∧ Row wr w.heap.size w.heap.size (X.length + 1) (X.length + 1) o ∧ Below w.heap.size w wr) (fun _ iv _ => X.length - (intOf iv).toNat)
    case atStart => exact ⟨0, _, 0, Nat.zero_le _, rfl, rfl, ⟨by omega, by omega, by simp [val]⟩, by omega, by omega, hR, hB⟩
    case round =>
      clear hR hB
      obtain ⟨k, o, cy, hk, rfl, rfl, hinv, hc0, hc1, hR, hB⟩ := hrel
      by_cases hlt : k < X.length
      · obtain ⟨b, off, rfl, hcX⟩ := (hX.below hB).at_ hlt
        have hcO := hR.cell k (by omega)
        have hfO := hR.frozen k
        have hsz := hR.lt
        have hstep := hinv.out.step hX.lim hY.lim (show k < o.length by rw [hR.len]; omega)
        have hx := hX.lim.getD k
        have hy := hY.lim.getD k
        have hZ := Row.stored hR k (x := (cy + X.getD k 0 + Y.getD k 0) % 4294967296) (by omega) (by omega)
        have Hstep := Lib.hid hstep
        have hB2 := hB.setCell (p := ⟨w.heap.size, k, none⟩) (Nat.le_refl _) (.int .u32 ((cy + X.getD k 0 + Y.getD k 0) % 4294967296))
        clear hstep
        by_cases hky : k < Y.length
        · obtain ⟨b', off', rfl, hcY⟩ := (hY.below hB).at_ hky
          generalize X.getD k 0 = x at *
          generalize Y.getD k 0 = y at *
          go_wp2
          go_roundw
          case rel => exact ⟨k + 1, _, _, by omega, rfl, by go_num, Hstep, by omega, by omega, hZ, hB2⟩
          case measure => simp [intOf]; omega
        · have hy0 : Y.getD k 0 = 0 := by rw [List.getD_eq_getElem?_getD, List.getElem?_eq_none (by omega)]; rfl
          rw [hy0, Int.add_zero] at hZ Hstep hB2
          clear hy hy0
          generalize X.getD k 0 = x at *
          go_wp2
          go_roundw
          case rel => exact ⟨k + 1, _, _, by omega, rfl, by go_num, Hstep, by omega, by omega, hZ, hB2⟩
          case measure => simp [intOf]; omega
      · obtain rfl : k = X.length := by omega
        have hcO := hR.cell X.length (by omega)
        have hfO := hR.frozen X.length
        have hsz := hR.lt
        have hZ := Row.stored hR X.length (x := cy) hc0 (by omega)
        have hlast := (hinv.out.last hR.len rfl hYX).trans HN.out
        have Hlast := Lib.hid hlast
        have hB2 := hB.setCell (p := ⟨w.heap.size, X.length, none⟩) (Nat.le_refl _) (.int .u32 cy)
        clear hlast
        go_wp2_with (go_at_call 100; refine (trim_calls _ _ _ _ _ hZ.toOwn.sl).mono ?_; rintro e w' ⟨rfl, rfl⟩)
        rw [Hlast.out]
        go_ret
        have hO := hZ.toOwn.strip
        rw [Hlast.out] at hO
        exact ⟨_, _, rfl, hO, hB2⟩
end Go.Proofs.Ytdmahjbjlppeaaa

namespace Go.Proofs.Ytdmahjbjlppeaaa
open Go.RowKit

set_option maxHeartbeats 2000000 in
theorem mul_calls (w : World) (A : Option Addr) (n c : Nat) (la : List Int) (A' : Option Addr) (n' c' : Nat) (lb : List Int) (ha : Sl w A n c la) (hb : Sl w A' n' c' lb) (hs : n + n' ≤ 70368744177664) :
    Calls Try.prog 91 #[.slice A n c, .slice A' n' c'] w (RetNum (val la * val lb) w) := by
  have hX := ha.strip
  have hY := hb.strip
  have eX := val_digs (val la)
  have eY := val_digs (val lb)
  have hsX := digs_val_len ha.lim
  have hsY := digs_val_len hb.lim
  have hsm : (digs (val la)).length + (digs (val lb)).length ≤ 70368744177664 := by have := ha.len; have := hb.len; omega
  clear hsX hsY hs
  go_enter Try.func91, Try.ntmps91
  go_wp2_with fail
  refine (trim_calls _ _ _ _ _ ha).mono ?_
  rintro e w' ⟨rfl, rfl⟩
  go_wp2_with fail
  refine (trim_calls _ _ _ _ _ hb).mono ?_
  rintro e w' ⟨rfl, rfl⟩
  clear ha hb
  generalize val la = a at *
  generalize val lb = b at *
  generalize digs a = X at *
  generalize digs b = Y at *
  subst eX eY
  go_wp2_with (at_make; refine make_u32 _ rfl _ _ rfl (X.length + Y.length) _ _ _ _ rfl rfl ?_ ?_ ?_ ?_; (iterate 3 omega); intro w1 hR hB)
  go_loopw [21] (fun iv wr => ∃ (i : Nat) (o : List Int), i ≤ X.length ∧ iv = .int .i64 i ∧ Hid (val (o.take (i + Y.length)) = val (X.take i) * val Y) ∧ Row wr w.heap.size w.heap.size (X.length + Y.length) (X.length + Y.length) o ∧ Below w.heap.size w wr) (fun iv _ => X.length - (intOf iv).toNat)
  case atStart => exact ⟨0, _, Nat.zero_le _, rfl, by unfold Hid; rw [List.take_replicate, val_replicate]; simp [val], hR, hB⟩
  case round =>
    clear hR hB
    obtain ⟨i, o, hi, rfl, hinv, hR, hB⟩ := hrel
    by_cases hlt : i < X.length
    · go_wp2
      go_loopw [7, 26] (fun cv jv wq => ∃ (j : Nat) (o : List Int) (cy : Int), j ≤ Y.length ∧ cv = .int .u64 cy ∧ jv = .int .i64 j ∧ Hid (MulInv X Y o i j cy) ∧ 0 ≤ cy ∧ cy < 4294967296 ∧ Row wq w.heap.size w.heap.size (X.length + Y.length) (X.length + Y.length) o ∧ Below w.heap.size w wq) (fun _ jv _ => Y.length - (intOf jv).toNat)
      case atStart => exact ⟨0, _, 0, Nat.zero_le _, rfl, rfl, MulInv.start hinv.out, by omega, by omega, hR, hB⟩
      case round =>
        clear hR hB hinv o
        obtain ⟨j, o, cy, hj, rfl, rfl, hinv, hc0, hc1, hR, hB⟩ := hrel
        by_cases hjt : j < Y.length
        · obtain ⟨b, off, rfl, hcX⟩ := (hX.below hB).at_ hlt
          obtain ⟨b', off', rfl, hcY⟩ := (hY.below hB).at_ hjt
          have hcO := hR.cell (i + j) (by omega)
          have hfO := hR.frozen (i + j)
          have hsz := hR.lt
          have hx := hX.lim.getD i
          have hy := hY.lim.getD j
          have hq := hR.lim.getD (i + j)
          have hp := mul_lim hx hy
          have hstep := hinv.out.step hX.lim hY.lim hR.lim hjt (show i + Y.length ≤ o.length by rw [hR.len]; omega)
          have Hstep := Lib.hid hstep
          clear hstep
          generalize X.getD i 0 = x at *
          generalize Y.getD j 0 = y at *
          generalize o.getD (i + j) 0 = q at *
          go_wp2
          go_quiet (fail)
          go_wp2
          go_roundw
          case rel => exact ⟨j + 1, _, _, by omega, rfl, by go_num, Hstep, by omega, by omega, Row.stored (hR.drew _) (i + j) (by omega) (by omega), Below.setCell (below_drawn hB ⟨_, rfl⟩) (Nat.le_refl _) _⟩
          case measure => simp [intOf] <;> omega
        · obtain rfl : j = Y.length := by omega
          have hcO := hR.cell (i + Y.length) (by omega)
          have hfO := hR.frozen (i + Y.length)
          have hsz := hR.lt
          have hlast := hinv.out.last (by rw [hR.len]; omega)
          have Hlast := Lib.hid hlast
          clear hlast
          have hZ := Row.stored hR (i + Y.length) (x := cy) hc0 hc1
          have hB2 := hB.setCell (p := ⟨w.heap.size, i + Y.length, none⟩) (Nat.le_refl _) (.int .u32 cy)
          go_wp2
          go_roundw
          case rel => exact ⟨i + 1, _, by omega, by go_num, Hlast, hZ, hB2⟩
          case measure => simp [intOf] <;> omega
    · obtain rfl : i = X.length := by omega
      have hlast := hinv.out
      rw [List.take_length, List.take_of_length_le (by rw [hR.len]; omega)] at hlast
      have Hlast := Lib.hid hlast
      clear hlast
      go_wp2_with (go_at_call 100; refine (trim_calls _ _ _ _ _ hR.toOwn.sl).mono ?_; rintro e w' ⟨rfl, rfl⟩)
      rw [Hlast.out]
      go_ret
      have hO := hR.toOwn.strip
      rw [Hlast.out] at hO
      exact ⟨_, _, rfl, hO, hB⟩
end Go.Proofs.Ytdmahjbjlppeaaa

namespace Go.Proofs.Ytdmahjbjlppeaaa
open Go.RowKit

theorem or64 (k : Nat) (a b : Int) (h0 : 0 ≤ a) (h1 : a < 18446744073709551616) (hk : a.toNat % 2 ^ k = 0) (hb0 : 0 ≤ b) (hb : b.toNat < 2 ^ k) (hb1 : b < 18446744073709551616) : bits .or .u64 a b = a + b := by
  rw [u64_or a b h0 h1 hb0 hb1, nat_join k _ _ hk hb]
  omega
theorem or64_32 (a b : Int) (h0 : 0 ≤ a) (h1 : a < 4294967296) (hb0 : 0 ≤ b) (hb : b < 4294967296) : bits .or .u64 (a * 4294967296) b = a * 4294967296 + b :=
  or64 32 _ _ (by omega) (by omega) (by omega) hb0 (by omega) (by omega)

/-- A quotient and a rest of one limb. -/
def RetNumR (N : Nat) (k : Int) (w : World) (e : Ending) (w' : World) : Prop := ∃ A c, e = .returned (.tuple #[.slice A (digs N).length c, .int .u32 k]) ∧ Own w' w.heap.size A (digs N).length c (digs N) ∧ Below w.heap.size w w'

set_option maxHeartbeats 1000000 in
theorem short_calls (w : World) (A : Option Addr) (n c : Nat) (X : List Int) (d : Int) (hX : Sl w A n c X) (hd : 0 < d) (hd1 : d < 4294967296) :
    Calls Try.prog 102 #[.slice A n c, .int .u32 d] w (RetNumR (val X / d.toNat) ((val X % d.toNat : Nat) : Int) w) := by
  have hsm := hX.small
  obtain rfl := hX.len
  go_enter Try.func102, Try.ntmps102
  go_wp2_with (at_make; refine make_u32 _ rfl _ _ rfl X.length _ _ _ _ rfl rfl ?_ ?_ ?_ ?_; (iterate 3 omega); intro w1 hR hB)
  go_loopw [7, 8] (fun cv iv wr => ∃ (k : Nat) (o : List Int) (r : Int), k ≤ X.length ∧ cv = .int .u64 r ∧ iv = .int .i64 (k - 1) ∧ Hid (ShortInv X o d k r) ∧ Row wr w.heap.size w.heap.size X.length X.length o ∧ Below w.heap.size w wr) (fun _ iv _ => (intOf iv + 1).toNat)
  case atStart => exact ⟨X.length, _, 0, Nat.le_refl _, rfl, rfl, ShortInv.start hd (by simp), hR, hB⟩
  case round =>
    clear hR hB
    obtain ⟨k, o, r, hk, rfl, rfl, hinv, hR, hB⟩ := hrel
    by_cases h0 : k = 0
    · subst h0
      obtain ⟨h1, h2⟩ := hinv.out.last
      have H1 := Lib.hid h1
      have H2 := Lib.hid h2
      have hr0 := hinv.out.r0
      have hr1 := hinv.out.r1
      clear h1 h2
      go_wp2_with (go_at_call 100; refine (trim_calls _ _ _ _ _ hR.toOwn.sl).mono ?_; rintro e w' ⟨rfl, rfl⟩)
      rw [H1.out]
      go_ret2
      have hO := hR.toOwn.strip
      rw [H1.out] at hO
      exact ⟨_, _, by rw [H2.out]; rfl, hO, hB⟩
    · obtain ⟨i, rfl⟩ : ∃ i, k = i + 1 := ⟨k - 1, by omega⟩
      clear h0
      obtain ⟨b, off, rfl, hcX⟩ := (hX.below hB).at_ (i := i) (by omega)
      have hcO := hR.cell i (by omega)
      have hfO := hR.frozen i
      have hsz := hR.lt
      have e0 : ((i + 1 : Nat) : Int) - 1 = i := by omega
      rw [e0]
      clear e0
      have hstep := Lib.hid (hinv.out.step hX.lim (show i < o.length by rw [hR.len]; omega) (by omega))
      have hx := hX.lim.getD i
      have hr0 := hinv.out.r0
      have hr1 := hinv.out.r1
      have hq := div_lt_B hr0 hr1 hx
      have hor := or64_32 r (X.getD i 0) hr0 (by omega) hx.1 hx.2
      generalize X.getD i 0 = x at *
      go_wp2
      go_roundw
      case rel => exact ⟨i, _, _, by omega, rfl, rfl, hstep, Row.stored hR i hq.1 hq.2, hB.setCell (Nat.le_refl _) _⟩
      case measure => simp [intOf] <;> omega
end Go.Proofs.Ytdmahjbjlppeaaa

namespace Go.Proofs.Ytdmahjbjlppeaaa
open Go.RowKit

theorem or32 (k : Nat) (a b : Int) (h0 : 0 ≤ a) (hb0 : 0 ≤ b) (hb1 : b < 4294967296) (hk : b.toNat % 2 ^ k = 0) (ha : a.toNat < 2 ^ k) (ha1 : a < 4294967296) : bits .or .u32 a b = a + b := by
  rw [u32_or a b h0 ha1 hb0 hb1, Nat.or_comm, nat_join k _ _ hk ha]
  omega

set_option maxHeartbeats 2000000 in
theorem shl_calls (w : World) (A : Option Addr) (n c : Nat) (la : List Int) (m : Nat) (h : Sl w A n c la) (hs : n + m / 32 + 1 ≤ 70368744177664) :
    Calls Try.prog 104 #[.slice A n c, .int .i64 m] w (RetNum (val la * 2 ^ m) w) := by
  have hX := h.strip
  have eX := val_digs (val la)
  have hsX := digs_val_len h.lim
  have hsm : (digs (val la)).length + m / 32 + 1 ≤ 70368744177664 := by have := h.len; omega
  clear hsX hs
  go_enter Try.func104, Try.ntmps104
  go_wp2_with fail
  refine (trim_calls _ _ _ _ _ h).mono ?_
  rintro e w' ⟨rfl, rfl⟩
  clear h
  generalize val la = a at *
  generalize digs a = X at *
  subst eX
  by_cases h0 : X.length = 0
  · have e1 := Lib.hid (show val X * 2 ^ m = 0 by rw [List.eq_nil_of_length_eq_zero h0]; simp [val])
    rw [h0]
    clear h0
    go_wp2
    go_ret
    refine ⟨none, 0, by rw [e1.out, digs_zero]; rfl, ?_, Below.refl _ _⟩
    rw [e1.out, digs_zero]
    exact Own.nil _ _
  · have hne : ((X.length : Int) == 0) = false := by simpa using h0
    go_wp2_with (at_make; refine make_u32 _ rfl _ _ rfl (X.length + m / 32 + 1) _ _ _ _ rfl rfl ?_ ?_ ?_ ?_; (iterate 3 omega); intro w1 hR hB)
    obtain ⟨q, hq⟩ : ∃ q, q = m / 32 := ⟨_, rfl⟩
    obtain ⟨s, hs⟩ : ∃ s, s = m % 32 := ⟨_, rfl⟩
    rw [show (m : Int) / 32 = (q : Int) by omega, show (m : Int) % 32 = (s : Int) by omega, ← hq]
    rw [← hq] at hR hsm
    have hs31 : s ≤ 31 := by omega
    have HL := Lib.hid (show ∀ o, ShlInv X o q s X.length → o.length = X.length + q + 1 → val o = val X * 2 ^ m by rw [hq, hs]; exact fun o => ShlInv.last)
    clear hq hs h0 hne
    go_loopw [28] (fun iv wr => ∃ (i : Nat) (o : List Int), i ≤ X.length ∧ iv = .int .i64 i ∧ Hid (ShlInv X o q s i) ∧ Row wr w.heap.size w.heap.size (X.length + q + 1) (X.length + q + 1) o ∧ Below w.heap.size w wr) (fun iv _ => X.length - (intOf iv).toNat)
    case atStart => exact ⟨0, _, Nat.zero_le _, rfl, ShlInv.start _ _ _ _, hR, hB⟩
    case round =>
      clear hR hB
      obtain ⟨i, o, hi, rfl, hinv, hR, hB⟩ := hrel
      by_cases hlt : i < X.length
      · obtain ⟨b, off, rfl, hcX⟩ := (hX.below hB).at_ hlt
        have hcO := hR.cell (i + q) (by omega)
        have hfO := hR.frozen (i + q)
        have hfO2 := hR.frozen (i + q + 1)
        have hsz := hR.lt
        have hx := hX.lim.getD i
        have hP := Two32.mk' hs31
        have hstep := Lib.hid (hinv.out.step hP hX.lim hR.lim (show i + q + 1 < o.length by rw [hR.len]; omega))
        have hh := hR.lim.getD (i + q)
        have hcO2 := hR.cell (i + q + 1) (by omega)
        have ht := hinv.out.top
        obtain ⟨a1, a2, a3, a4, a5, a6, a7⟩ := shl_limb hP hx hh.1 (by omega)
        have hpm := hP.pm
        have hor := or32 s _ _ hh.1 (Int.emod_nonneg _ (by omega)) (Int.emod_lt_of_pos _ (by omega)) a3 ht hh.2
        have hw : IntKind.u64.wrap (X.getD i 0 * 2 ^ s) = X.getD i 0 * ((2 ^ s : Nat) : Int) := by
          rw [show ((2 ^ s : Nat) : Int) = 2 ^ s by rw [Int.natCast_pow]; rfl] at a1 a2 ⊢
          exact IntWalk.u64_in _ ⟨a1, by omega⟩
        generalize X.getD i 0 * ((2 ^ s : Nat) : Int) = V at *
        generalize X.getD i 0 = x at *
        generalize o.getD (i + q) 0 = h at *
        generalize hL : h + V % 4294967296 = L at *
        clear hP hpm a3 a7 ht hL
        go_wp2
        go_roundw
        case rel => exact ⟨i + 1, _, by omega, by go_num, hstep, Row.stored (Row.stored hR (i + q) a4 a5) (i + q + 1) a6 (by omega), (hB.setCell (p := ⟨w.heap.size, i + q, none⟩) (Nat.le_refl _) _).setCell (Nat.le_refl _) _⟩
        case measure => simp [intOf] <;> omega
      · obtain rfl : i = X.length := by omega
        have h1 := Lib.hid (HL.out _ hinv.out hR.len)
        go_wp2_with (go_at_call 100; refine (trim_calls _ _ _ _ _ hR.toOwn.sl).mono ?_; rintro e w' ⟨rfl, rfl⟩)
        rw [h1.out]
        go_ret
        have hO := hR.toOwn.strip
        rw [h1.out] at hO
        exact ⟨_, _, rfl, hO, hB⟩

theorem or64_r (a b : Int) (h0 : 0 ≤ a) (h1 : a < 4294967296) (hb0 : 0 ≤ b) (hb : b < 4294967296) : bits .or .u64 a (b * 4294967296) = a + 4294967296 * b := by
  rw [u64_or a _ h0 (by omega) (by omega) (by omega), Nat.or_comm, nat_join 32 _ _ (by omega) (by omega)]
  omega

theorem shr_cast (x y : Int) (s : Nat) (hx : 0 ≤ x) (hy : 0 ≤ y) : (((x.toNat + 4294967296 * y.toNat) / 2 ^ s % 4294967296 : Nat) : Int) = (x + 4294967296 * y) / 2 ^ s % 4294967296 := by
  rw [Int.natCast_emod, Int.natCast_ediv, Int.natCast_add, Int.natCast_mul, Int.natCast_pow, Int.toNat_of_nonneg hx, Int.toNat_of_nonneg hy]
  rfl

set_option maxHeartbeats 2000000 in
theorem shr_calls (w : World) (A : Option Addr) (n c : Nat) (la : List Int) (m : Nat) (h : Sl w A n c la) (hs : m < 9223372036854775808) :
    Calls Try.prog 106 #[.slice A n c, .int .i64 m] w (RetNum (val la / 2 ^ m) w) := by
  have hX := h.strip
  have eX := val_digs (val la)
  have hsm := hX.small
  go_enter Try.func106, Try.ntmps106
  go_wp2_with fail
  refine (trim_calls _ _ _ _ _ h).mono ?_
  rintro e w' ⟨rfl, rfl⟩
  clear h
  generalize val la = a at *
  generalize digs a = X at *
  subst eX
  by_cases h0 : X.length ≤ m / 32
  · have e1 := Lib.hid (shr_zero hX.lim h0)
    have h0' : decide ((X.length : Int) ≤ (m : Int) / 32) = true := by simp; omega
    clear h0
    go_wp2
    go_ret
    refine ⟨none, 0, by rw [e1.out, digs_zero]; rfl, ?_, Below.refl _ _⟩
    rw [e1.out, digs_zero]
    exact Own.nil _ _
  · have h0' : decide ((X.length : Int) ≤ (m : Int) / 32) = false := by simp; omega
    have h1 : m / 32 < X.length := by omega
    have h2 : (m : Int) / 32 < X.length := by omega
    clear h0
    go_wp2_with (at_make; refine make_u32 _ rfl _ _ rfl (X.length - m / 32) _ _ _ _ rfl rfl ?_ ?_ ?_ ?_; (iterate 3 omega); intro w1 hR hB)
    obtain ⟨q, hq⟩ : ∃ q, q = m / 32 := ⟨_, rfl⟩
    obtain ⟨s, hs'⟩ : ∃ s, s = m % 32 := ⟨_, rfl⟩
    obtain ⟨K, hK⟩ : ∃ K, K = X.length - m / 32 := ⟨_, rfl⟩
    rw [show (m : Int) / 32 = (q : Int) by omega, show (m : Int) % 32 = (s : Int) by omega, ← hK]
    rw [← hK] at hR
    have hs31 : s ≤ 31 := by omega
    have HX := Lib.hid (show X.length = q + K by omega)
    have hqK : q + K ≤ 70368744177664 := by omega
    have HL := Lib.hid (show ∀ o, ShrInv X o q s o.length → o.length = K → val o = val X / 2 ^ m by rw [hq, hs', hK]; exact fun o h1 h2 => ShrInv.last h1 hX.lim h2 (by omega))
    clear hq hs' hK h0' h1 h2 hsm
    go_loopw [28] (fun iv wr => ∃ (i : Nat) (o : List Int), i ≤ K ∧ iv = .int .i64 i ∧ Hid (ShrInv X o q s i) ∧ Row wr w.heap.size w.heap.size K K o ∧ Below w.heap.size w wr) (fun iv _ => K - (intOf iv).toNat)
    case atStart => exact ⟨0, _, Nat.zero_le _, rfl, ShrInv.start _ _ _ _, hR, hB⟩
    case round =>
      clear hR hB
      obtain ⟨i, o, hi, rfl, hinv, hR, hB⟩ := hrel
      by_cases hlt : i < K
      · obtain ⟨b, off, rfl, hcX⟩ := (hX.below hB).at_ (i := i + q) (by have := HX.out; omega)
        have hcO := hR.cell i (by omega)
        have hfO := hR.frozen i
        have hsz := hR.lt
        have hx := hX.lim.getD (i + q)
        have hy := hX.lim.getD (i + q + 1)
        have hstep := hinv.out.step hs31 hX.lim (show i < o.length by rw [hR.len]; omega) (by have := HX.out; omega)
        have hZ := Row.stored hR i (x := ((((X.getD (i + q) 0).toNat + 4294967296 * (X.getD (i + q + 1) 0).toNat) / 2 ^ s % 4294967296 : Nat) : Int)) (by omega) (by omega)
        have h3 : (i : Int) + q < X.length := by have := HX.out; omega
        have h3' : i + q < X.length := by have := HX.out; omega
        by_cases hlt2 : i + q + 1 < X.length
        · have h4 : (i : Int) + q + 1 < X.length := by omega
          obtain ⟨b', off', he, hcY⟩ := (hX.below hB).at_ hlt2
          cases he
          have hor := or64_r _ _ hx.1 hx.2 hy.1 hy.2
          have hd : decide ((i : Int) + q + 1 < X.length) = true := by simp; omega
          rw [shr_cast _ _ s hx.1 hy.1] at hstep hZ
          generalize X.getD (i + q) 0 = x at *
          generalize X.getD (i + q + 1) 0 = y at *
          have hstep := Lib.hid hstep
          go_wp2
          go_roundw
          case rel => exact ⟨i + 1, _, by omega, by go_num, hstep, hZ, hB.setCell (Nat.le_refl _) _⟩
          case measure => simp [intOf] <;> omega
        · have hd : decide ((i : Int) + q + 1 < X.length) = false := by simp; omega
          have hy0 : X.getD (i + q + 1) 0 = 0 := by rw [List.getD_eq_getElem?_getD, List.getElem?_eq_none (by omega)]; rfl
          rw [hy0, shr_cast _ _ s hx.1 (by omega), Int.mul_zero, Int.add_zero] at hstep hZ
          clear hy hy0
          generalize X.getD (i + q) 0 = x at *
          have hstep := Lib.hid hstep
          go_wp2
          go_roundw
          case rel => exact ⟨i + 1, _, by omega, by go_num, hstep, hZ, hB.setCell (Nat.le_refl _) _⟩
          case measure => simp [intOf] <;> omega
      · obtain rfl : i = K := by omega
        have h1 := Lib.hid (HL.out o (by rw [hR.len]; exact hinv.out) hR.len)
        go_wp2_with (go_at_call 100; refine (trim_calls _ _ _ _ _ hR.toOwn.sl).mono ?_; rintro e w' ⟨rfl, rfl⟩)
        rw [h1.out]
        go_ret
        have hO := hR.toOwn.strip
        rw [h1.out] at hO
        exact ⟨_, _, rfl, hO, hB⟩
end Go.Proofs.Ytdmahjbjlppeaaa

namespace Go.Proofs.Ytdmahjbjlppeaaa
open Go.RowKit

theorem sub3 (x p b : Int) (hx : 0 ≤ x ∧ x < 4294967296) (hp : 0 ≤ p ∧ p < 4294967296) (hb : 0 ≤ b ∧ b ≤ 1) :
    IntKind.u64.wrap (IntKind.u64.wrap (x - p) - b) % 4294967296 = (x - p - b) % 4294967296 ∧ IntKind.u64.wrap (IntKind.u64.wrap (x - p) - b) / 9223372036854775808 = if x - p - b < 0 then 1 else 0 := by
  rw [IntKind.wrap_u64, IntKind.wrap_u64]
  refine ⟨by omega, ?_⟩
  split <;> omega

def RetDigit (w : World) (base g cap N : Nat) (pre post : List Int) (n : Nat) (q : Nat) (r : Nat) (e : Ending) (w' : World) : Prop :=
  ∃ win', e = .returned (.int .u32 (q : Int)) ∧ Row w' base g cap N (pre ++ win' ++ post) ∧ win'.length = n + 2 ∧ val win' = r ∧ w.grownBy w' (some g)

set_option maxHeartbeats 4000000 in
theorem digit_calls (w : World) (base g cap N : Nat) (pre win post V : List Int) (n : Nat) (A' : Option Addr) (c' cu : Nat) (hU : Row w base g cap N (pre ++ win ++ post)) (hwl : win.length = n + 2)
    (hV : Sl w A' (n + 1) c' V) (hne : ∀ b off, A' = some ⟨b, off, none⟩ → b ≠ g) (htop : 0 < V.getD n 0) (hW : val win < 4294967296 * val V) :
    Calls Try.prog 105 #[.slice (some ⟨g, pre.length, none⟩) (n + 2) cu, .slice A' (n + 1) c'] w (RetDigit w base g cap N pre post n (val win / val V) (val win % val V)) := by
  have hN := hU.len
  have hsm := hU.small
  simp only [List.length_append] at hN
  have hXl : Lim win := hU.lim.left.right
  obtain ⟨hq0, hq1, hup⟩ := guess_up hXl hV.lim hwl hV.len htop hW
  have hcU1 := hU.cell (pre.length + (n + 1)) (by omega)
  have hcU0 := hU.cell (pre.length + n) (by omega)
  rw [win_getD _ _ _ _ (by omega)] at hcU1 hcU0
  obtain ⟨b, off, rfl, hcV⟩ := hV.at_ (i := n) (by omega)
  have hx1 := hXl.getD (n + 1)
  have hx0 := hXl.getD n
  have hv := hV.lim.getD n
  have hor := or64_32 _ _ hx1.1 hx1.2 hx0.1 hx0.2
  generalize hqe : min ((win.getD (n + 1) 0 * 4294967296 + win.getD n 0) / V.getD n 0) 4294967295 = q at *
  have Hq := Lib.hid hqe
  clear hqe
  generalize win.getD (n + 1) 0 = x1 at *
  generalize win.getD n 0 = x0 at *
  generalize V.getD n 0 = v1 at *
  go_enter Try.func105, Try.ntmps105
  go_wp2
  go_quiet (fail)
  go_wp2
  rw [Hq.out]
  clear Hq hcU1 hcU0 hcV hor hx1 hx0 hv htop
  have hU1 := hU.drew nq
  have hg1 := grown_drewN (World.grownBy.refl w (some g)) nq
  have hV1 := hV.drewN nq
  generalize w.drewN nq = w1 at *
  clear hU
  go_loopw [8, 9, 41] (fun cv bv iv wr => ∃ (k : Nat) (o : List Int) (cy bo : Int), k ≤ n + 2 ∧ cv = .int .u64 cy ∧ bv = .int .u64 bo ∧ iv = .int .i64 k ∧ Hid (WinInv win V o k q cy bo) ∧ Row wr base g cap N (pre ++ o ++ post) ∧ w.grownBy wr (some g)) (fun _ _ iv _ => n + 2 - (intOf iv).toNat)
  case atStart => exact ⟨0, win, 0, 0, Nat.zero_le _, rfl, rfl, rfl, WinInv.start _ _ _, hU1, hg1⟩
  case round =>
    clear hU1 hg1 hV1
    obtain ⟨k, o, cy, bo, hk, rfl, rfl, rfl, hinv, hR, hG⟩ := hrel
    have hol := hinv.out.len
    have Hol := Lib.hid (hol.trans hwl)
    clear hol
    by_cases hlt : k < n + 2
    · have hcO := hR.cell (pre.length + k) (by have := Hol.out; omega)
      rw [win_getD _ _ _ _ (by have := Hol.out; omega), getD_of_drop hinv.out.tail] at hcO
      have hfO := hR.frozen (pre.length + k)
      have hsz := hR.lt
      have hstep := hinv.out.step hXl hV.lim ⟨hq0, hq1⟩ (by omega)
      have hZ := Row.stored hR (pre.length + k) (x := (win.getD k 0 - (cy + q * V.getD k 0) % 4294967296 - bo) % 4294967296) (by omega) (by omega)
      rw [win_set _ _ _ _ _ (by have := Hol.out; omega)] at hZ
      have hx := hXl.getD k
      have hv := hV.lim.getD k
      have hp := mul_lim ⟨hq0, hq1⟩ hv
      have hc0 := hinv.out.c0
      have hc1 := hinv.out.c1
      have hb0 := hinv.out.b0
      have hb1 := hinv.out.b1
      obtain ⟨e1, e2⟩ := sub3 (win.getD k 0) ((cy + q * V.getD k 0) % 4294967296) bo hx ⟨by omega, by omega⟩ ⟨hb0, hb1⟩
      rw [← e1, ← e2] at hstep
      rw [← e1] at hZ
      clear e1 e2
      have hstep := Lib.hid hstep
      by_cases hk1 : k < n + 1
      · obtain ⟨b2, off2, he, hcV⟩ := (hV.grown hG hne).at_ (i := k) (by omega)
        cases he
        have hG2 := fun u => grown_setCell hG (pre.length + k) u
        have hd : decide ((k : Int) < (n : Int) + 1) = true := by simp; omega
        generalize V.getD k 0 = v at *
        generalize win.getD k 0 = x at *
        go_wp2
        go_roundw
        case rel => exact ⟨k + 1, _, _, _, by omega, rfl, rfl, by go_num, hstep, hZ, hG2 _⟩
        case measure => simp [intOf] <;> omega
      · have hv0 : V.getD k 0 = 0 := by rw [List.getD_eq_getElem?_getD, List.getElem?_eq_none (by have := hV.len; omega)]; rfl
        have hd : decide ((k : Int) < (n : Int) + 1) = false := by simp; omega
        rw [hv0, Int.mul_zero, Int.add_zero, Int.emod_eq_of_lt hc0 hc1] at hstep hZ
        clear hv hp hv0
        have hG2 := fun u => grown_setCell hG (pre.length + k) u
        generalize win.getD k 0 = x at *
        go_wp2
        go_roundw
        case rel => exact ⟨k + 1, _, _, _, by omega, rfl, rfl, by go_num, hstep, hZ, hG2 _⟩
        case measure => simp [intOf] <;> omega
    · obtain rfl : k = n + 2 := by omega
      have hback := hinv.out
      rw [← hwl] at hback
      have hback := hback.back hR.lim.left.right (by have := hV.len; omega) ⟨hq0, hq1⟩ hup
      rw [hwl] at hback
      have hback := Lib.hid hback
      have hb0 := hinv.out.b0
      have hb1 := hinv.out.b1
      have hc0 := hinv.out.c0
      have hc1 := hinv.out.c1
      clear hinv hlt hk hup hq0 hq1
      go_wp2
      go_loopw [7, 9] (fun qv bv wq => ∃ (o : List Int) (q bo : Int), qv = .int .u64 q ∧ bv = .int .u64 bo ∧ Hid (BackInv (val win) (val V) (n + 2) o q bo) ∧ Row wq base g cap N (pre ++ o ++ post) ∧ w.grownBy wq (some g)) (fun qv _ _ => (intOf qv).toNat)
      case atStart => exact ⟨o, q, bo, rfl, rfl, hback, hR, hG⟩
      case round =>
        clear hback hb0 hb1 hc0 hc1 hR hG Hol
        obtain ⟨o, q, bo, rfl, rfl, hback, hR, hG⟩ := hrel
        have hb0 := hback.out.b0
        have hb1 := hback.out.b1
        by_cases hbo : 0 < bo
        · have hqp := hback.out.pos hbo
          have hq1 := hback.out.q1
          go_wp2
          go_loopw [13, 84] (fun cv iv wz => ∃ (k : Nat) (z : List Int) (cy : Int), k ≤ n + 2 ∧ cv = .int .u64 cy ∧ iv = .int .i64 k ∧ Hid (AddInv o V z k cy) ∧ Hid (z.drop k = o.drop k) ∧ Hid (z.length = n + 2) ∧ 0 ≤ cy ∧ cy ≤ 1 ∧ Row wz base g cap N (pre ++ z ++ post) ∧ w.grownBy wz (some g)) (fun _ iv _ => n + 2 - (intOf iv).toNat)
          case atStart => exact ⟨0, o, 0, Nat.zero_le _, rfl, rfl, ⟨by omega, by omega, by simp [val]⟩, rfl, hback.out.len, by omega, by omega, hR, hG⟩
          case round =>
            clear hR hG
            obtain ⟨k, z, cy, hk, rfl, rfl, hinv, htl, hzl, hc0, hc1, hR, hG⟩ := hrel
            by_cases hlt : k < n + 2
            · have hcO := hR.cell (pre.length + k) (by have := hzl.out; omega)
              rw [win_getD _ _ _ _ (by have := hzl.out; omega), getD_of_drop htl.out] at hcO
              have hfO := hR.frozen (pre.length + k)
              have hsz := hR.lt
              have hx := hback.out.lim.getD k
              have hv := hV.lim.getD k
              have hstep := hinv.out.step hback.out.lim hV.lim (show k < z.length by have := hzl.out; omega)
              have htl2 := Lib.hid (drop_set_succ (x := (cy + o.getD k 0 + V.getD k 0) % 4294967296) htl.out)
              have hzl2 := Lib.hid (show (z.set k ((cy + o.getD k 0 + V.getD k 0) % 4294967296)).length = n + 2 by rw [List.length_set]; exact hzl.out)
              have hZ := Row.stored hR (pre.length + k) (x := (cy + o.getD k 0 + V.getD k 0) % 4294967296) (by omega) (by omega)
              rw [win_set _ _ _ _ _ (by have := hzl.out; omega)] at hZ
              have hstep := Lib.hid hstep
              have hG2 := fun u => grown_setCell hG (pre.length + k) u
              by_cases hk1 : k < n + 1
              · obtain ⟨b2, off2, he, hcV⟩ := (hV.grown hG hne).at_ (i := k) (by omega)
                cases he
                have hd : decide ((k : Int) < (n : Int) + 1) = true := by simp; omega
                generalize V.getD k 0 = v at *
                generalize o.getD k 0 = x at *
                go_wp2
                go_roundw
                case rel => exact ⟨k + 1, _, _, by omega, rfl, by go_num, hstep, htl2, hzl2, by omega, by omega, hZ, hG2 _⟩
                case measure => simp [intOf] <;> omega
              · have hv0 : V.getD k 0 = 0 := by rw [List.getD_eq_getElem?_getD, List.getElem?_eq_none (by have := hV.len; omega)]; rfl
                have hd : decide ((k : Int) < (n : Int) + 1) = false := by simp; omega
                rw [hv0, Int.add_zero] at hstep hZ htl2 hzl2
                clear hv hv0
                generalize o.getD k 0 = x at *
                go_wp2
                go_roundw
                case rel => exact ⟨k + 1, _, _, by omega, rfl, by go_num, hstep, htl2, hzl2, by omega, by omega, hZ, hG2 _⟩
                case measure => simp [intOf] <;> omega
            · obtain rfl : k = n + 2 := by omega
              have hnew := Lib.hid (hback.out.step hbo hinv.out hR.lim.left.right hzl.out rfl (by have := hV.len; omega))
              have hn0 := hnew.out.b0
              have hb1' : bo = 1 := by omega
              have hcb : 0 ≤ bo - cy := by omega
              clear hb1' hn0
              go_wp2
              go_roundw
              case rel => exact ⟨z, _, _, rfl, rfl, hnew, hR, hG⟩
              case measure => simp [intOf] <;> omega
        · obtain rfl : bo = 0 := by omega
          obtain ⟨h1, h2⟩ := hback.out.last
          have H1 := Lib.hid h1
          have hq0 := hback.out.q0
          have hq1 := hback.out.q1
          have hlen := hback.out.len
          have HL := Lib.hid hlen
          have H2 := Lib.hid h2
          clear h1 h2 hlen
          go_wp2
          go_ret
          exact ⟨o, by rw [H1.out]; rfl, hR, HL.out, H2.out, hG⟩

theorem digit_at (w : World) (base g cap N : Nat) (pre win post V : List Int) (n j : Nat) (hj : pre.length = j) (A' : Option Addr) (c' cu : Nat) (hU : Row w base g cap N (pre ++ win ++ post)) (hwl : win.length = n + 2)
    (hV : Sl w A' (n + 1) c' V) (hne : ∀ b off, A' = some ⟨b, off, none⟩ → b ≠ g) (htop : 0 < V.getD n 0) (hW : val win < 4294967296 * val V) :
    Calls Try.prog 105 #[.slice (some ⟨g, j, none⟩) (n + 2) cu, .slice A' (n + 1) c'] w (RetDigit w base g cap N pre post n (val win / val V) (val win % val V)) := by
  subst hj
  exact digit_calls w base g cap N pre win post V n A' c' cu hU hwl hV hne htop hW
end Go.Proofs.Ytdmahjbjlppeaaa

namespace Go.Proofs.Ytdmahjbjlppeaaa
open Go.RowKit

/-- A quotient and a rest, each in memory of its own. -/
def RetDiv (q r : Nat) (w : World) (e : Ending) (w' : World) : Prop := ∃ A c A' c', e = .returned (.tuple #[.slice A (digs q).length c, .slice A' (digs r).length c', .int .i64 0]) ∧
  Own w' w.heap.size A (digs q).length c (digs q) ∧ Own w' w.heap.size A' (digs r).length c' (digs r) ∧ (∀ g, A = some ⟨g, 0, none⟩ → A' ≠ some ⟨g, 0, none⟩) ∧ Below w.heap.size w w'

theorem lz32_calls (x : Int) (w : World) (h0 : 0 ≤ x) (h1 : x < 4294967296) :
    Calls Try.prog 103 #[.int .u32 x] w fun e w' => e = .returned (.int .i64 (32 - (blen x.toNat : Int))) ∧ w = w' :=
  (Try.bits_LeadingZeros32 x w h0 (by omega)).mono fun _ _ ⟨h, h'⟩ => ⟨by rw [h, bitLen_blen _ (by omega)], h'.symm⟩

set_option maxHeartbeats 1000000 in
theorem div_zero (w : World) (A : Option Addr) (n c : Nat) (la : List Int) (A' : Option Addr) (n' c' : Nat) (lb : List Int) (ha : Sl w A n c la) (hb : Sl w A' n' c' lb) (h0 : val lb = 0) :
    Calls Try.prog 75 #[.slice A n c, .slice A' n' c'] w fun e w' => e = .returned (.tuple #[.slice none 0 0, .slice none 0 0, .int .i64 11]) ∧ w = w' := by
  have e0 := Lib.hid (show (digs (val lb)).length = 0 by rw [h0, digs_zero]; rfl)
  go_enter Try.func75, Try.ntmps75
  go_wp2_with fail
  refine (trim_calls _ _ _ _ _ ha).mono ?_
  rintro e w' ⟨rfl, rfl⟩
  go_wp2_with fail
  refine (trim_calls _ _ _ _ _ hb).mono ?_
  rintro e w' ⟨rfl, rfl⟩
  rw [e0.out]
  go_wp2
  go_ret3
  exact ⟨rfl, rfl⟩

set_option maxHeartbeats 1000000 in
theorem div_small (w : World) (A : Option Addr) (n c : Nat) (la : List Int) (A' : Option Addr) (n' c' : Nat) (lb : List Int) (ha : Sl w A n c la) (hb : Sl w A' n' c' lb) (h0 : val la < val lb) (hs : n ≤ 35184372088832) :
    Calls Try.prog 75 #[.slice A n c, .slice A' n' c'] w (RetDiv (val la / val lb) (val la % val lb) w) := by
  have hg := cmpN_lt h0
  have Hg := Lib.hid hg
  have hbp : 0 < (digs (val lb)).length := by
    rcases Nat.eq_zero_or_pos (digs (val lb)).length with h | h
    · have := (digs_nil_iff (val lb)).1 (List.eq_nil_of_length_eq_zero h); omega
    · exact h
  have hne : (((digs (val lb)).length : Int) == 0) = false := beq_eq_false_iff_ne.2 (by omega)
  clear hg
  go_enter Try.func75, Try.ntmps75
  go_wp2_with fail
  refine (trim_calls _ _ _ _ _ ha).mono ?_
  rintro e w' ⟨rfl, rfl⟩
  go_wp2_with fail
  refine (trim_calls _ _ _ _ _ hb).mono ?_
  rintro e w' ⟨rfl, rfl⟩
  go_wp2_with fail
  refine (cmp_calls _ _ _ _ _ _ _ _ _ ha.strip hb.strip).mono ?_
  rintro e w1 ⟨rfl, hd⟩
  rw [val_digs, val_digs, Hg.out]
  have hB := below_drawn (Below.refl w.heap.size w) hd
  go_wp2_with fail
  refine (norm_calls _ _ _ _ _ (ha.strip.drawn hd) (by have := digs_val_len ha.lim; have := ha.len; omega)).mono ?_
  rintro e w2 ⟨A1, c1, rfl, hO, hB2⟩
  go_wp2
  go_ret3
  rw [val_digs] at hO ⊢
  rw [Nat.mod_eq_of_lt h0, Nat.div_eq_of_lt h0]
  refine ⟨none, 0, A1, c1, by rw [digs_zero]; rfl, by rw [digs_zero]; exact Own.nil _ _, hO.base hB.size, by simp, below_step hB hB2⟩

theorem len_one {N : Nat} (h : (digs N).length = 1) : 0 < N ∧ N < 4294967296 ∧ (digs N).getD 0 0 = (N : Int) := by
  have h1 := digs_lt_pow N
  rw [h, Nat.pow_one] at h1
  have h0 : 0 < N := by
    rcases Nat.eq_zero_or_pos N with h0 | h0
    · subst h0; rw [digs_zero] at h; simp at h
    · exact h0
  refine ⟨h0, h1, ?_⟩
  rw [digs_pos h0, Nat.mod_eq_of_lt h1]
  rfl

set_option maxHeartbeats 1000000 in
theorem div_one (w : World) (A : Option Addr) (n c : Nat) (la : List Int) (A' : Option Addr) (n' c' : Nat) (lb : List Int) (ha : Sl w A n c la) (hb : Sl w A' n' c' lb) (h0 : val lb ≤ val la) (h1 : (digs (val lb)).length = 1) :
    Calls Try.prog 75 #[.slice A n c, .slice A' n' c'] w (RetDiv (val la / val lb) (val la % val lb) w) := by
  have hg : 0 ≤ cmpN (val la) (val lb) := by unfold cmpN; split <;> (try split) <;> omega
  generalize hge : cmpN (val la) (val lb) = r at hg
  have Hg := Lib.hid hge
  clear hge
  obtain ⟨hp, hlt, htop⟩ := len_one h1
  have H1 := Lib.hid h1
  clear h1
  go_enter Try.func75, Try.ntmps75
  go_wp2_with fail
  refine (trim_calls _ _ _ _ _ ha).mono ?_
  rintro e w' ⟨rfl, rfl⟩
  go_wp2_with fail
  refine (trim_calls _ _ _ _ _ hb).mono ?_
  rintro e w' ⟨rfl, rfl⟩
  rw [H1.out]
  have hbs := hb.strip
  rw [H1.out] at hbs
  go_wp2_with fail
  refine (cmp_calls _ _ _ _ _ _ _ _ _ ha.strip hbs).mono ?_
  rintro e w1 ⟨rfl, hd⟩
  rw [val_digs, val_digs, Hg.out]
  have hB := below_drawn (Below.refl w.heap.size w) hd
  have ha1 := ha.strip.drawn hd
  obtain ⟨b, off, rfl, hcb⟩ := (hbs.drawn hd).at_ (i := 0) (by omega)
  rw [htop, Nat.add_zero] at hcb
  clear htop
  go_wp2_with fail
  refine (short_calls _ _ _ _ _ (val lb : Int) ha1 (by omega) (by omega)).mono ?_
  rintro e w2 ⟨A1, c1, rfl, hO, hB2⟩
  rw [val_digs, Int.toNat_natCast] at hO ⊢
  go_wp2_with fail
  have hR := Row.lit1 w2 (x := (val la : Int) % (val lb : Int)) (Int.emod_nonneg _ (by omega)) (by have := Int.emod_lt_of_pos (val la : Int) (show 0 < (val lb : Int) by omega); omega)
  refine (trim_calls _ _ _ _ _ hR.toOwn.sl).mono ?_
  rintro e w' ⟨rfl, rfl⟩
  go_wp2
  go_ret3
  have hv : val [(val la : Int) % (val lb : Int)] = val la % val lb := by rw [val_one, ← Int.natCast_emod, Int.toNat_natCast]
  have hO2 := hR.toOwn.strip
  rw [hv] at hO2 ⊢
  have hS := below_step hB hB2
  refine ⟨A1, c1, _, _, rfl, (hO.base hB.size).alloc _, hO2.base hS.size, ?_, hS.alloc hS.size _⟩
  rintro g rfl h
  have := (hO.own.lt g rfl).2
  injection h with h
  injection h with h
  omega

set_option maxHeartbeats 4000000 in
set_option maxRecDepth 100000 in
theorem div_long (w : World) (A : Option Addr) (n0 c : Nat) (la : List Int) (A' : Option Addr) (n' c' : Nat) (lb : List Int) (ha : Sl w A n0 c la) (hb : Sl w A' n' c' lb) (h0 : val lb ≤ val la) (n : Nat) (h1 : (digs (val lb)).length = n + 1) (hn : 0 < n) (hs : n0 ≤ 35184372088829) :
    Calls Try.prog 75 #[.slice A n0 c, .slice A' n' c'] w (RetDiv (val la / val lb) (val la % val lb) w) := by
  have hg : 0 ≤ cmpN (val la) (val lb) := by unfold cmpN; split <;> (try split) <;> omega
  generalize hge : cmpN (val la) (val lb) = r at hg
  have Hg := Lib.hid hge
  clear hge
  have hlx : (digs (val la)).length ≤ 35184372088829 := by have := digs_val_len ha.lim; have := ha.len; omega
  have hyx : n + 1 ≤ (digs (val la)).length := by have := digs_len_mono h0; omega
  have hX := ha.strip
  have hY := hb.strip
  rw [h1] at hY
  have htop := top_ne_zero h1
  have hty := (digs_lim (val lb)).getD n
  have H1 := Lib.hid h1
  clear h1
  go_enter Try.func75, Try.ntmps75
  go_wp2_with fail
  refine (trim_calls _ _ _ _ _ ha).mono ?_
  rintro e w' ⟨rfl, rfl⟩
  go_wp2_with fail
  refine (trim_calls _ _ _ _ _ hb).mono ?_
  rintro e w' ⟨rfl, rfl⟩
  rw [H1.out]
  have hne : (((n + 1 : Nat) : Int) == 0) = false := beq_eq_false_iff_ne.2 (by omega)
  have hne1 : (((n + 1 : Nat) : Int) == 1) = false := beq_eq_false_iff_ne.2 (by omega)
  have hn0 : ((n : Int) == 0) = false := beq_eq_false_iff_ne.2 (by omega)
  clear ha hb
  go_wp2_with fail
  refine (cmp_calls _ _ _ _ _ _ _ _ _ hX hY).mono ?_
  rintro e w1 ⟨rfl, hd⟩
  rw [val_digs, val_digs, Hg.out]
  have hB := below_drawn (Below.refl w.heap.size w) hd
  replace hX := hX.drawn hd
  replace hY := hY.drawn hd
  obtain ⟨b, off, rfl, hcb⟩ := hY.at_ (i := n) (by omega)
  obtain ⟨s, hs1⟩ : ∃ s, s + blen ((digs (val lb)).getD n 0).toNat = 32 := ⟨32 - blen ((digs (val lb)).getD n 0).toNat, by have := blen_le_iff.2 (show ((digs (val lb)).getD n 0).toNat < 2 ^ 32 by omega); omega⟩
  have hs31 : s ≤ 31 := by have := blen_pos (show 0 < ((digs (val lb)).getD n 0).toNat by omega); omega
  obtain ⟨hvl, hvg⟩ := norm_len H1.out hs1
  generalize hte : (digs (val lb)).getD n 0 = t at *
  have hse : (32 : Int) - (blen t.toNat : Int) = (s : Int) := by omega
  have Hse := Lib.hid hse
  have Hvl := Lib.hid hvl
  have hst := div_start (la := (digs (val la)).length) rfl hyx hs31 hvg
  have Hst := Lib.hid hst
  clear hse hvl hst hte hs1 hn0
  go_wp2_with fail
  refine (lz32_calls t _ hty.1 hty.2).mono ?_
  rintro e w' ⟨rfl, rfl⟩
  rw [Hse.out]
  go_wp2_with fail
  refine (shl_calls _ _ _ _ _ s hY (by omega)).mono ?_
  rintro e w2 ⟨Av, cv, rfl, hV, hBv⟩
  rw [val_digs, Hvl.out] at hV ⊢
  have hB2 := below_step hB hBv
  go_wp2_with fail
  refine (shl_calls _ _ _ _ _ s (hX.below hBv) (by omega)).mono ?_
  rintro e w3 ⟨Au, cu, rfl, hU, hBu⟩
  rw [val_digs] at hU ⊢
  have hVu := hV.below hBu
  have hB3 := below_step hB2 hBu
  have hL := Row.lit w3 [0, 0] (Lim.cons (by omega) (by omega) (Lim.one (by omega) (by omega))) (by simp) #[.int .u32 0, .int .u32 0] rfl
  have hcl := Hst.out.2.2.1
  rw [List.length_take, List.length_append] at hcl
  have hcl2 : (digs (val la)).length + 1 ≤ (digs (val la * 2 ^ s)).length + 2 := by
    have : ([0, 0] : List Int).length = 2 := rfl
    omega
  have h4 := Hst.out.1
  clear hcl
  obtain ⟨gv, rfl, hRv⟩ := hV.row (by omega)
  have hgv := hRv.lt.2
  have hRv3 := (hRv.below hBu).alloc (.cells #[.int .u32 0, .int .u32 0] 68)
  go_wp2_with (first
    | (at_builtin; refine append_u32 _ rfl _ _ rfl w2.heap.size Au (digs (val la * 2 ^ s)).length cu (digs (val la * 2 ^ s)) (some ⟨w3.heap.size, 0, none⟩) 2 2 [0, 0] rfl rfl (hU.alloc _) hL.toOwn.sl ?_ ?_ ?_; omega; (have := hBu.size; simp; omega); intro A1 c1 w4 hU4 hg4 hat4; have hB4 := below_append (hB3.alloc hB3.size _) (hU.alloc _) hB2.size hg4; have hRv4 := hRv3.keptAppend hgv (hU.alloc _) hg4; obtain ⟨gu, rfl, hRu⟩ := hU4.row (by omega); have hcap := ownsRow_cap hRu.own)
    | (at_make; refine make_u32 _ rfl _ _ rfl ((digs (val la)).length - n) _ _ _ _ rfl rfl ?_ ?_ ?_ ?_; (iterate 3 omega); intro w5 hRq hBq))
  have hRu5 := (hRu.take ((digs (val la)).length + 1) hcl2).below hBq
  have hRv5 := hRv4.below hBq
  have hB5 := below_step hB4 hBq
  have hgu := hRu.lt
  have hUV := Hst.out.2
  have hVv := val_digs (val lb * 2 ^ s)
  have hVl := Hvl.out
  have hinv0 : DivInv ((digs (val la * 2 ^ s) ++ [0, 0]).take ((digs (val la)).length + 1)) (digs (val lb * 2 ^ s)) ((digs (val la * 2 ^ s) ++ [0, 0]).take ((digs (val la)).length + 1)) (List.replicate ((digs (val la)).length - n) 0) ((digs (val la)).length - n) :=
    ⟨hRu5.lim, Lim.replicate _, rfl, rfl, by rw [hVv]; exact hUV.2.2, by rw [val_drop_ge (List.replicate _ _) _ (by simp)]; simp⟩
  have hvtop : 0 < (digs (val lb * 2 ^ s)).getD n 0 := by have := top_ne_zero hVl; have := (digs_lim (val lb * 2 ^ s)).getD n; omega
  have Hdiv := Lib.hid (div_shift (val la) (val lb) s)
  have HU0 := Lib.hid hUV.1
  have HUl := Lib.hid hUV.2.1
  have HVv := Lib.hid hVv
  have HVl := Lib.hid hVl
  have Hinv0 := Lib.hid hinv0
  clear hinv0 hVv hVl hUV hRu hRv hRv3 hRv4 hL hU hU4 hcl2 h4 hcap
  clear Hst Hvl
  obtain ⟨M, hM⟩ : ∃ M, M = (digs (val la)).length - n := ⟨_, rfl⟩
  rw [← hM] at hRq Hinv0 ⊢
  have hLM : (digs (val la)).length = n + M := by omega
  generalize (digs (val la * 2 ^ s) ++ [0, 0]).take ((digs (val la)).length + 1) = U0 at *
  generalize digs (val lb * 2 ^ s) = V at *
  have hc1 : n + M + 1 ≤ c1 := by have := ownsRow_cap hRu5.own; omega
  have hM0 : 0 < M := by omega
  have hnM : n + M ≤ 35184372088829 := by omega
  generalize digs (val la) = X at *
  generalize X.length = L at *
  have hLM1 : L ≤ n + M := by omega
  have hLM2 : n + M ≤ L := by omega
  clear hM hLM hlx hyx hg hX
  go_loopw [13] (fun jv wr => ∃ (k : Nat) (U Q : List Int), k ≤ M ∧ jv = .int .i64 (k - 1) ∧ Hid (DivInv U0 V U Q k) ∧ Row wr w2.heap.size gu c1 (L + 1) U ∧ Row wr w4.heap.size w4.heap.size M M Q ∧ Row wr w1.heap.size gv cv (n + 1) V ∧ Below w.heap.size w wr) (fun jv _ => (intOf jv + 1).toNat)
  case atStart => exact ⟨M, _, _, Nat.le_refl _, by go_num, Hinv0, hRu5, hRq, hRv5, hB5⟩
  case round =>
    clear hRu5 hRq hRv5 hB5 Hinv0
    obtain ⟨k, U, Q, hk, rfl, hinv, hRu, hRq, hRv, hBr⟩ := hrel
    by_cases hk0 : k = 0
    · subst hk0
      obtain ⟨hq, hr⟩ := hinv.out.last
      rw [HU0.out, HVv.out, Hdiv.out.1] at hq
      rw [HU0.out, HVv.out] at hr
      have hr2 := Hdiv.out.2
      rw [← hr] at hr2
      have Hq := Lib.hid hq
      have Hr2 := Lib.hid hr2
      clear hq hr hr2
      go_wp2_with fail
      refine (trim_calls _ _ _ _ _ hRq.toOwn.sl).mono ?_
      rintro e w' ⟨rfl, rfl⟩
      rw [Hq.out]
      go_wp2_with fail
      refine (trim_calls _ _ _ _ _ hRu.toOwn.sl).mono ?_
      rintro e w' ⟨rfl, rfl⟩
      go_wp2_with fail
      refine (shr_calls _ _ _ _ _ s hRu.toOwn.sl.strip (by omega)).mono ?_
      rintro e w7 ⟨Ar, cr, rfl, hO, hB7⟩
      rw [val_digs, Hr2.out] at hO ⊢
      go_wp2
      go_ret3
      have hOq := hRq.toOwn.strip
      rw [Hq.out] at hOq
      refine ⟨_, _, _, _, rfl, (hOq.base (by have := hB4.size; omega)).below hB7, hO.base hBr.size, ?_, below_step hBr hB7⟩
      rintro g hg h
      injection hg with hg
      injection hg with hg
      subst h
      have := (hO.own.lt g rfl).1
      have := hRq.lt
      omega
    · obtain ⟨j, rfl⟩ : ∃ j, k = j + 1 := ⟨k - 1, by omega⟩
      clear hk0
      have e0 : ((j + 1 : Nat) : Int) - 1 = j := by omega
      rw [e0]
      clear e0
      have hVlen := HVl.out
      have hjl : j + V.length < U.length := by rw [hRu.len, hVlen]; omega
      obtain ⟨hw1, hw2, hw3⟩ := hinv.out.win hRv.lim hjl
      have hpl : (U.take j).length = j := by rw [List.length_take, hRu.len]; omega
      have hsplit : U = U.take j ++ (U.drop j).take (n + 2) ++ U.drop (j + V.length + 1) := by
        rw [hVlen, List.append_assoc, show j + (n + 1) + 1 = j + (n + 2) by omega, ← List.drop_drop, List.take_append_drop, List.take_append_drop]
      have hwl : ((U.drop j).take (n + 2)).length = n + 2 := by rw [List.length_take, List.length_drop, hRu.len]; omega
      rw [hVlen, show n + 1 + 1 = n + 2 by omega] at hw1
      have hRu' := hRu
      rw [hsplit] at hRu'
      have hdig := digit_at wr w2.heap.size gu c1 (L + 1) (U.take j) ((U.drop j).take (n + 2)) (U.drop (j + V.length + 1)) V n j hpl (some ⟨gv, 0, none⟩) cv (c1 - j) hRu' hwl hRv.toOwn.sl (by intro b' off' e; injection e with e; injection e with e; omega) hvtop (by rw [hw1]; exact hw2)
      rw [hw1] at hdig
      have Hdig := Lib.hid hdig
      clear hdig hRu' hsplit hVlen hjl hw1 hw2 hw3
      go_wp2_with fail
      rw [show j + (n + 1) + 1 - j = n + 2 by omega]
      refine Hdig.out.mono ?_
      rintro e wd ⟨win', rfl, hRu2, hwl2, hwv2, hgd⟩
      have hRq2 := hRq.grown hgd (by omega)
      have hRv2 := hRv.grown hgd (by omega)
      have hBd := hBr.grown hgd hBr.size (fun x hx => by injection hx with hx; subst hx; have := hRu.lt.1; have := hB2.size; omega)
      have hcQ := hRq2.cell j (by omega)
      have hfQ := hRq2.frozen j
      have hsz := hRq2.lt
      have hVlen := HVl.out
      have hstep := Lib.hid (hinv.out.step hRv.lim (by rw [hRu.len, hVlen]; omega) (by rw [hRq.len]; omega) hRu2.lim.left.right (by rw [hwl2, hVlen]) hwv2)
      have hq32 : val (U.drop j) / val V < 4294967296 := by
        have := (hinv.out.win hRv.lim (by rw [hRu.len, hVlen]; omega)).2.1
        exact Nat.div_lt_of_lt_mul (by rw [Nat.mul_comm]; exact this)
      clear hVlen hwl2 hwv2
      generalize val (U.drop j) / val V = qj at *
      have hqj : 0 ≤ (qj : Int) ∧ (qj : Int) < 4294967296 := by omega
      go_wp2
      go_roundw
      case rel => exact ⟨j, _, _, by omega, by go_num, hstep, hRu2.setOther (by omega) _ _, Row.stored hRq2 j hqj.1 hqj.2, hRv2.setOther (by omega) _ _, hBd.setCell (by have := hB4.size; omega) _⟩
      case measure => simp [intOf] <;> omega
end Go.Proofs.Ytdmahjbjlppeaaa

namespace Go.Proofs.Ytdmahjbjlppeaaa
open Go.RowKit

theorem div_calls (w : World) (A : Option Addr) (n c : Nat) (la : List Int) (A' : Option Addr) (n' c' : Nat) (lb : List Int) (ha : Sl w A n c la) (hb : Sl w A' n' c' lb) (h0 : 0 < val lb) (hs : n ≤ 35184372088829) :
    Calls Try.prog 75 #[.slice A n c, .slice A' n' c'] w (RetDiv (val la / val lb) (val la % val lb) w) := by
  rcases Nat.lt_or_ge (val la) (val lb) with h | h
  · exact div_small w A n c la A' n' c' lb ha hb h (by omega)
  · have hp : (digs (val lb)).length ≠ 0 := fun e => by have := (digs_nil_iff (val lb)).1 (List.eq_nil_of_length_eq_zero e); omega
    by_cases h1 : (digs (val lb)).length = 1
    · exact div_one w A n c la A' n' c' lb ha hb h h1
    · exact div_long w A n c la A' n' c' lb ha hb h ((digs (val lb)).length - 1) (by omega) (by omega) hs

set_option maxHeartbeats 1000000 in
theorem gcd_calls (w : World) (A : Option Addr) (n c : Nat) (la : List Int) (A' : Option Addr) (n' c' : Nat) (lb : List Int) (ha : Sl w A n c la) (hb : Sl w A' n' c' lb) (hs : n ≤ 35184372088829) (hs' : n' ≤ 35184372088829) :
    Calls Try.prog 108 #[.slice A n c, .slice A' n' c'] w (RetNum (Nat.gcd (val la) (val lb)) w) := by
  have hla := digs_val_len ha.lim
  have hlb := digs_val_len hb.lim
  have hla2 := ha.len
  have hlb2 := hb.len
  go_enter Try.func108, Try.ntmps108
  go_wp2_with fail
  refine (norm_calls _ _ _ _ _ ha (by omega)).mono ?_
  rintro e w1 ⟨A1, c1, rfl, hO1, hB1⟩
  go_wp2_with fail
  refine (norm_calls _ _ _ _ _ (hb.below hB1) (by omega)).mono ?_
  rintro e w2 ⟨A2, c2, rfl, hO2, hB2⟩
  have hO3 := (hO1.below hB2)
  have hO4 := hO2.base hB1.size
  have hB := below_step hB1 hB2
  go_wp2
  go_loopg [5, 6] (val lb) (fun g xv yv wr => ∃ (X : Nat) (Ax : Option Addr) (cx : Nat) (Ay : Option Addr) (cy : Nat), xv = .slice Ax (digs X).length cx ∧ yv = .slice Ay (digs g).length cy ∧ Own wr w.heap.size Ax (digs X).length cx (digs X) ∧ Own wr w.heap.size Ay (digs g).length cy (digs g) ∧ Hid (Nat.gcd X g = Nat.gcd (val la) (val lb)) ∧ Hid ((digs X).length ≤ 35184372088829) ∧ Hid ((digs g).length ≤ 35184372088829) ∧ Below w.heap.size w wr)
  case atStart => exact ⟨val la, _, _, _, _, rfl, rfl, hO3, hO4, rfl, Nat.le_trans hla (by omega), Nat.le_trans hlb (by omega), hB⟩
  case round =>
    obtain ⟨X, Ax, cx, Ay, cy, rfl, rfl, hX, hY, hg, hlx, hly, hBr⟩ := hrel
    rcases Nat.eq_zero_or_pos gk with h0 | h0
    · subst h0
      have e0 := Lib.hid (show (digs 0).length = 0 by rw [digs_zero]; rfl)
      have e1 := hg.out
      rw [Nat.gcd_zero_right] at e1
      rw [e0.out]
      go_wp2
      go_ret
      rw [e1] at hX ⊢
      exact ⟨_, _, rfl, hX, hBr⟩
    · have hp : 0 < (digs gk).length := by
        rcases Nat.eq_zero_or_pos (digs gk).length with e | e
        · have := (digs_nil_iff gk).1 (List.eq_nil_of_length_eq_zero e); omega
        · exact e
      have hdiv := div_calls wr Ax (digs X).length cx (digs X) Ay (digs gk).length cy (digs gk) hX.sl hY.sl (by rw [val_digs]; exact h0) hlx.out
      rw [val_digs, val_digs] at hdiv
      have hdiv := Lib.hid hdiv
      go_wp2_with fail
      refine hdiv.out.mono ?_
      rintro e w5 ⟨Aq, cq, Ar, cr, rfl, hq, hr, _, hB5⟩
      clear hdiv hq
      go_wp2
      go_roundg (X % gk)
      case rel => exact ⟨gk, _, _, _, _, rfl, rfl, hY.below hB5, hr.base hBr.size, by unfold Hid; rw [← hg.out, Nat.gcd_comm gk, ← Nat.gcd_rec, Nat.gcd_comm], hly, Nat.le_trans (digs_len_mono (Nat.le_of_lt (Nat.mod_lt _ h0))) hly.out, below_step hBr hB5⟩
      case measure => exact Nat.mod_lt _ h0

theorem pow_len {m k : Nat} (h : m < 32 * k) : (digs (2 ^ m)).length ≤ k := digs_len_le (by rw [pow_B]; exact Nat.pow_lt_pow_right (by omega) h)
theorem digs_len_lt_mono {a b k : Nat} (h : a ≤ b) (hk : (digs b).length ≤ k) : (digs a).length ≤ k := Nat.le_trans (digs_len_mono h) hk

end Go.Proofs.Ytdmahjbjlppeaaa

namespace Go.Proofs.Ytdmahjbjlppeaaa
open Go.RowKit

theorem info_u8 : (Try.prog.info? 5).map (fun i => (i.zero, i.size, i.bytes)) = some (some (.int .u8 0), 1, 1) := by kernel_rfl
def bytesV (l : List Int) : List Value := l.map fun x => .int .u8 x
/-- A slice of bytes of the call's own. -/
structure OwnB (w : World) (base : Nat) (A : Option Addr) (n c : Nat) (l : List Int) : Prop where
  len : l.length = n
  own : w.ownsRow base 5 1 (.slice A n c) n (bytesV l)
theorem OwnB.nil (w : World) (base : Nat) : OwnB w base none 0 0 [] := ⟨rfl, World.ownsRow_nil w base _ 1⟩
theorem OwnB.below {w w1 : World} {base : Nat} {A : Option Addr} {n c : Nat} {l : List Int} (h : OwnB w base A n c l) (hb : Below w.heap.size w w1) : OwnB w1 base A n c l := ⟨h.len, ownsRow_below h.own hb⟩
theorem below_appendB {w w1 w2 : World} (h : Below w.heap.size w w1) {base : Nat} {A : Option Addr} {n c : Nat} {l : List Int} (ho : OwnB w1 base A n c l) (hb : w.heap.size ≤ base) {x : Obj} (hg : (w1.alloc x).grownBy w2 (Value.slice A n c).ownBlock) : Below w.heap.size w w2 :=
  (h.alloc h.size x).grown hg (Nat.le_trans h.size (by simp)) (fun k hk => Nat.le_trans hb (ho.own.lt k hk).1)
theorem Own.keptB {w w' : World} {base base' : Nat} {A A' : Option Addr} {n n' c c' : Nat} {l l' : List Int} (h : Own w base A n c l) (hb : OwnB w base' A' n' c' l') (hg : w.grownBy w' (Value.slice A' n' c').ownBlock) : Own w' base A n c l := by
  refine ⟨h.lim, h.len, h.small, h.own.kept hg ?_⟩
  rcases h.own.2 with ⟨hv, _⟩ | ⟨g, cap, cur, hv, _, hh, _⟩
  · rw [hv]; exact .inl rfl
  · rw [hv]
    refine .inr fun hk => ?_
    rcases hb.own.2 with ⟨hv', _⟩ | ⟨g', cap', cur', hv', _, hh', _⟩
    · rw [hv'] at hk; simp [Value.ownBlock] at hk
    · rw [hv'] at hk
      have : g = g' := by simpa [Value.ownBlock] using hk
      subst this
      rw [hh] at hh'
      injection hh' with hh'
      injection hh' with _ ht
      exact absurd ht (by decide)
theorem OwnB.alloc {w : World} {base : Nat} {A : Option Addr} {n c : Nat} {l : List Int} (h : OwnB w base A n c l) (o : Obj) : OwnB (w.alloc o) base A n c l := h.below ((Below.refl _ _).alloc (Nat.le_refl _) o)
theorem OwnB.stored {w : World} {base g n c : Nat} {l : List Int} (h : OwnB w base (some ⟨g, 0, none⟩) n c l) (j : Nat) (x : Int) : OwnB (w.setCell ⟨g, j, none⟩ (.int .u8 x)) base (some ⟨g, 0, none⟩) n c (l.set j x) :=
  ⟨by rw [List.length_set]; exact h.len, by rw [bytesV, List.map_set]; exact (h.own.stored j (.int .u8 x)).1⟩
theorem OwnB.drew1 {w : World} {base n c : Nat} {A : Option Addr} {l : List Int} (h : OwnB w base A n c l) : OwnB w.drew base A n c l := ⟨h.len, h.own⟩
/-- 'append(back, x)', one byte. -/
theorem append1_u8 (w : World) {ops : Array Oper} {rest : List Oper} {o : Oper} {a : Act} {Q : Exit → Act → World → Prop} (hgd : o.guard = none) (s x : Operand)
    (ho : o.op = .call { callee := .builtin .append, args := #[s, x], argTypes := #[102, 102] }) (base : Nat) (A : Option Addr) (n c : Nat) (l : List Int) (v : Int)
    (hsv : a.eval s = .slice A n c) (hx : a.eval x = .slice (some ⟨w.heap.size, 0, none⟩) 1 1) (hown : OwnB w base A n c l) (hs : n + 1 ≤ 140737488355328) (hbase : base ≤ w.heap.size)
    (h : ∀ A1 c1 w', OwnB w' base A1 (n + 1) c1 (l ++ [v]) → (w.alloc (.cells #[.int .u8 v] 5)).grownBy w' (Value.slice A n c).ownBlock → wpList Try.prog ops Q rest (a.put o.dst (.slice A1 (n + 1) c1)) w') :
    wpList Try.prog ops Q (o :: rest) a (w.alloc (.cells #[.int .u8 v] 5)) := by
  obtain ⟨i0, hi, hz0, hz1, hz2⟩ := info_parts info_u8
  refine wpList_append_own _ hgd s x 102 ho base 5 i0 (.int .u8 0) 1 1 Try.underlying102 hi hz0 hz1 hz2 rfl (by omega) (.slice A n c) n (bytesV l) hsv (hown.own.alloc _) ⟨w.heap.size, 0, none⟩ 1 1 [.int .u8 v] hx rfl ?_ ?_ (by unfold maxLen; omega) (by omega) (by simp; omega) ?_
  · intro j u hu
    have hj : j = 0 := by
      have := (List.getElem?_eq_some_iff.1 hu).1
      simpa using this
    subst hj
    simp at hu
    subst hu
    rw [addr_add, World.cell?_alloc_at _ _ _ _ rfl]
    rfl
  · intro u hu
    simp at hu
    subst hu
    rfl
  · intro v' w' h1 h2 _
    obtain ⟨A1, c1, rfl⟩ := own_slice h1
    exact h A1 c1 w' ⟨by rw [List.length_append, hown.len]; rfl, by rw [bytesV, List.map_append]; exact h1⟩ h2

def RetText (N : Nat) (w : World) (e : Ending) (w' : World) : Prop := e = .returned (.string (strOfNums (decs N))) ∧ Below w.heap.size w w'

set_option maxHeartbeats 2000000 in
theorem text_pos (w : World) (A : Option Addr) (n c : Nat) (l : List Int) (h : Sl w A n c l) (h0 : 0 < val l) (hs : n ≤ 8796093022208) :
    Calls Try.prog 97 #[.slice A n c] w (RetText (val l) w) := by
  have hp : 0 < (digs (val l)).length := by
    rcases Nat.eq_zero_or_pos (digs (val l)).length with e | e
    · have := (digs_nil_iff (val l)).1 (List.eq_nil_of_length_eq_zero e); omega
    · exact e
  have hne : (((digs (val l)).length : Int) == 0) = false := beq_eq_false_iff_ne.2 (by omega)
  have hdl : (decR (val l)).length ≤ 87960930222080 := Nat.le_trans (decR_len_val h.lim) (by have := h.len; omega)
  go_enter Try.func97, Try.ntmps97
  go_wp2_with fail
  refine (norm_calls _ _ _ _ _ h (by omega)).mono ?_
  rintro e w1 ⟨A1, c1, rfl, hO, hB⟩
  clear h
  go_wp2
  go_loopg [0, 3] (val l) (fun g av bv wr => ∃ (Aa : Option Addr) (ca : Nat) (o : List Int) (Ab : Option Addr) (cb : Nat), av = .slice Aa (digs g).length ca ∧ bv = .slice Ab o.length cb ∧ Own wr w.heap.size Aa (digs g).length ca (digs g) ∧ OwnB wr w.heap.size Ab o.length cb o ∧ Hid (decR (val l) = o ++ decR g) ∧ Below w.heap.size w wr)
  case atStart => exact ⟨_, _, [], none, 0, rfl, rfl, hO, OwnB.nil _ _, rfl, hB⟩
  case round =>
    clear hO hB
    obtain ⟨Aa, ca, o, Ab, cb, rfl, rfl, hO, hOb, hdec, hB⟩ := hrel
    rcases Nat.eq_zero_or_pos gk with hg | hg
    · subst hg
      have e0 := Lib.hid (show (digs 0).length = 0 by rw [digs_zero]; rfl)
      have e1 := hdec.out
      rw [decR_zero, List.append_nil] at e1
      have hE := Lib.hid e1
      clear e1
      rw [e0.out]
      have holen := Lib.hid (show o.length ≤ 87960930222080 by rw [← hE.out]; exact hdl)
      have hopos : 0 < o.length := by
        rw [← hE.out, decR_pos h0]; simp
      have hol2 : o.length ≤ 87960930222080 := holen.out
      obtain ⟨gb, capb, hvb, hbb, hltb⟩ := hOb.own.form hopos
      injection hvb with hA _ hc
      subst hA hc
      clear hO hdec
      go_wp2
      go_loopw [7, 8] (fun iv kv wz => ∃ (i j : Nat) (z : List Int), i + j + 1 = o.length ∧ i ≤ j + 1 ∧ iv = .int .i64 i ∧ kv = .int .i64 j ∧ Hid (RevInv o z i) ∧ OwnB wz w.heap.size (some ⟨gb, 0, none⟩) o.length cb z ∧ Below w.heap.size w wz) (fun iv _ _ => o.length - (intOf iv).toNat)
      case atStart => exact ⟨0, o.length - 1, o, by omega, by omega, rfl, by go_num, RevInv.start o, hOb, hB⟩
      case round =>
        clear hOb hB
        obtain ⟨i, j, z, hij, hile, rfl, rfl, hinv, hOb, hB⟩ := hrel
        by_cases hlt : i < j
        · have hci := (hOb.own.cellAt i (by omega)).trans (show (bytesV z)[i]? = some (.int .u8 (o.getD i 0)) by
            have := hinv.out.at_ i (by omega)
            rw [if_neg (by omega)] at this
            rw [← this, bytesV, List.getElem?_map, List.getD_eq_getElem?_getD, List.getElem?_eq_getElem (show i < z.length by rw [hinv.out.len]; omega)]; rfl)
          have hcj := (hOb.own.cellAt j (by omega)).trans (show (bytesV z)[j]? = some (.int .u8 (o.getD j 0)) by
            have := hinv.out.at_ j (by omega)
            rw [if_neg (by omega)] at this
            rw [← this, bytesV, List.getElem?_map, List.getD_eq_getElem?_getD, List.getElem?_eq_getElem (show j < z.length by rw [hinv.out.len]; omega)]; rfl)
          have hfi := hOb.own.frozenAt i
          have hfj := hOb.own.frozenAt j
          have hstep := hinv.out.step (by omega)
          rw [show o.length - 1 - i = j by omega] at hstep
          replace hstep := Lib.hid hstep
          have hsz := hOb.own.lt gb rfl
          have hni : i < o.length := by omega
          have hnj : j < o.length := by omega
          generalize o.getD i 0 = x at *
          generalize o.getD j 0 = y at *
          have Hij := Lib.hid hij
          clear hij
          go_wp2
          go_region
          all_goals (try go_wp2)
          all_goals go_roundw
          case rel => exact ⟨i + 1, j - 1, _, by have := Hij.out; omega, by omega, by go_num, by go_num, hstep, ((hOb.stored i y).stored j x).drew1, below_drawn ((hB.setCell (p := ⟨gb, i, none⟩) hbb _).setCell (p := ⟨gb, j, none⟩) hbb _) ⟨1, rfl⟩⟩
          case measure => simp [intOf] <;> omega
        · have hz := hinv.out.last (by omega)
          have hfin := Lib.hid (show z = decs (val l) by rw [hz, decs, if_neg (by omega), hE.out])
          have hconv := run_convert_bytes_arg (P := Try.prog) wr 102 5 Try.underlying102 Try.underlying5 gb 0 o.length cb z hOb.len (fun i hi => by
            rw [Nat.zero_add]
            refine (hOb.own.cellAt i (by omega)).trans ?_
            rw [bytesV, List.getElem?_map, List.getD_eq_getElem?_getD, List.getElem?_eq_getElem (show i < z.length by rw [hOb.len]; exact hi)]
            rfl) 9 Try.underlying9
          clear hz hij hinv
          go_wp2
          go_ret
          exact ⟨by rw [hfin.out]; rfl, hB⟩
    · have hgp : 0 < (digs gk).length := by
        rcases Nat.eq_zero_or_pos (digs gk).length with e | e
        · have := (digs_nil_iff gk).1 (List.eq_nil_of_length_eq_zero e); omega
        · exact e
      have hsh := short_calls wr Aa _ ca _ 1000000000 hO.sl (by omega) (by omega)
      rw [val_digs] at hsh
      replace hsh := Lib.hid hsh
      go_wp2_with fail
      refine hsh.out.mono ?_
      rintro e w2 ⟨Aq, cq, rfl, hq, hB2⟩
      clear hsh
      rw [show (1000000000 : Int).toNat = 1000000000 from rfl] at hq ⊢
      have hBb := below_step hB hB2
      have hOb2 := hOb.below hB2
      have hq2 := hq.base hB.size
      have hm := Nat.div_add_mod gk 1000000000
      have hr : gk % 1000000000 < 1000000000 := Nat.mod_lt _ (by omega)
      have hqlt : gk / 1000000000 < gk := Nat.div_lt_self hg (by omega)
      generalize gk / 1000000000 = q at *
      generalize gk % 1000000000 = r at *
      go_wp2
      go_loopw [3, 5, 6] (fun bv rv kv wz => ∃ (k rr : Nat) (o : List Int) (Ab : Option Addr) (cb : Nat), k ≤ 9 ∧ kv = .int .i64 k ∧ rv = .int .u32 rr ∧ bv = .slice Ab o.length cb ∧ rr < 4294967296 ∧ Hid (rr < 10 ^ (9 - k)) ∧ Hid (decR (val l) = o ++ decR (q * 10 ^ (9 - k) + rr)) ∧ Own wz w.heap.size Aq (digs q).length cq (digs q) ∧ OwnB wz w.heap.size Ab o.length cb o ∧ Below w.heap.size w wz) (fun _ _ kv _ => 9 - (intOf kv).toNat)
      case atStart => exact ⟨0, r, o, Ab, cb, by omega, rfl, by go_num, rfl, by omega, hr, by unfold Hid; rw [hdec.out, ← hm, Nat.mul_comm], hq2, hOb2, hBb⟩
      case round =>
        clear hOb2 hq2 hBb hdec hOb hO
        obtain ⟨k, rr, o, Ab, cb, hk, rfl, rfl, rfl, hr32, hrr, hdec, hq2, hOb, hBz⟩ := hrel
        by_cases hgo : k < 9 ∧ (0 < q ∨ 0 < rr)
        · obtain ⟨hk9, hqr⟩ := hgo
          obtain ⟨hch, hch2⟩ := decR_chunk hk9 hrr.out hqr
          rw [hch] at hdec
          have hch := Lib.hid (show decR (val l) = (o ++ [48 + (rr : Int) % 10]) ++ decR (q * 10 ^ (9 - (k + 1)) + rr / 10) by rw [hdec.out, List.append_assoc]; rfl)
          have hlo := Lib.hid (show o.length + 1 ≤ 140737488355328 by have := congrArg List.length hdec.out; simp at this; omega)
          replace hch2 := Lib.hid hch2
          rcases Nat.eq_zero_or_pos q with hq0 | hq0
          · subst hq0
            have hrp : 0 < rr := by omega
            have e0 := Lib.hid (show (digs 0).length = 0 by rw [digs_zero]; rfl)
            rw [e0.out]
            rw [e0.out] at hq2
            go_wp2_with (at_builtin; (refine append1_u8 _ rfl _ _ rfl w.heap.size Ab o.length cb o (48 + (rr : Int) % 10) rfl rfl hOb ?_ ?_ ?_); (have := hlo.out; omega); exact hBz.size; intro A2 c2 w4 hO4 hg4; have hB4 := below_appendB hBz hOb (Nat.le_refl _) hg4; have hq4 := (hq2.alloc (.cells #[.int .u8 (48 + (rr : Int) % 10)] 5)).keptB (hOb.alloc _) hg4)
            go_roundw
            case rel => exact ⟨k + 1, rr / 10, _, A2, c2, by omega, by go_num, by go_num, by rw [List.length_append]; rfl, by omega, hch2, hch, hq4, by rw [List.length_append]; exact hO4, hB4⟩
            case measure => simp [intOf] <;> omega
          · have hqlen : 0 < (digs q).length := by
              rcases Nat.eq_zero_or_pos (digs q).length with e | e
              · have := (digs_nil_iff q).1 (List.eq_nil_of_length_eq_zero e); omega
              · exact e
            go_wp2_with (at_builtin; (refine append1_u8 _ rfl _ _ rfl w.heap.size Ab o.length cb o (48 + (rr : Int) % 10) rfl rfl hOb ?_ ?_ ?_); (have := hlo.out; omega); exact hBz.size; intro A2 c2 w4 hO4 hg4; have hB4 := below_appendB hBz hOb (Nat.le_refl _) hg4; have hq4 := (hq2.alloc (.cells #[.int .u8 (48 + (rr : Int) % 10)] 5)).keptB (hOb.alloc _) hg4)
            go_roundw
            case rel => exact ⟨k + 1, rr / 10, _, A2, c2, by omega, by go_num, by go_num, by rw [List.length_append]; rfl, by omega, hch2, hch, hq4, by rw [List.length_append]; exact hO4, hB4⟩
            case measure => simp [intOf] <;> omega
        · have hfin := Lib.hid (show decR (val l) = o ++ decR q by
            rw [hdec.out]
            congr 2
            rcases Nat.lt_or_ge k 9 with h9 | h9
            · have h1 : q = 0 := by omega
              have h2 : rr = 0 := by omega
              rw [h1, h2]; simp
            · have hk9 : 9 - k = 0 := by omega
              have := hrr.out
              rw [hk9, Nat.pow_zero] at this
              rw [hk9, Nat.pow_zero, Nat.mul_one]; omega)
          by_cases h9 : k < 9
          · obtain ⟨rfl, rfl⟩ : q = 0 ∧ rr = 0 := by omega
            have e0 := Lib.hid (show (digs 0).length = 0 by rw [digs_zero]; rfl)
            clear hgo
            rw [e0.out]
            rw [e0.out] at hq2
            go_wp2
            go_roundg 0
            case rel => exact ⟨Aq, cq, o, Ab, cb, by rw [e0.out], rfl, by rw [e0.out]; exact hq2, hOb, hfin, hBz⟩
            case measure => exact hqlt
          · clear hgo
            go_wp2
            go_roundg q
            case rel => exact ⟨Aq, cq, o, Ab, cb, rfl, rfl, hq2, hOb, hfin, hBz⟩
            case measure => exact hqlt

theorem text_calls (w : World) (A : Option Addr) (n c : Nat) (l : List Int) (h : Sl w A n c l) (hs : n ≤ 8796093022208) :
    Calls Try.prog 97 #[.slice A n c] w (RetText (val l) w) := by
  rcases Nat.eq_zero_or_pos (val l) with h0 | h0
  · have e0 := Lib.hid (show (digs (val l)).length = 0 by rw [h0, digs_zero]; rfl)
    have e1 := Lib.hid (show strOfNums (decs (val l)) = ⟨#[48]⟩ by rw [h0]; rfl)
    go_enter Try.func97, Try.ntmps97
    go_wp2_with fail
    refine (norm_calls _ _ _ _ _ h (by omega)).mono ?_
    rintro e w1 ⟨A1, c1, rfl, hO, hB⟩
    rw [e0.out]
    go_wp2
    go_ret
    exact ⟨by rw [e1.out]; rfl, hB⟩
  · exact text_pos w A n c l h h0 hs
end Go.Proofs.Ytdmahjbjlppeaaa
