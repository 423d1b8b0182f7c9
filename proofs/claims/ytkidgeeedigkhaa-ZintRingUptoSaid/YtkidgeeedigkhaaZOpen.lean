/- How an argument of the type api.Int reads: as a number, of so many limbs as the bulk says. -/
import Derived.Test.YtkidgeeedigkhaaBulk
import Derived.Test.YtkidgeeedigkhaaZVal
import Derived.Lib.SmallJoins
namespace Go.Proofs.Ytkidgeeedigkhaa
open Go.RowKit Go.ChangeShapes Go.WideShapes Go.Joins

theorem bulk_parts {H : Type} {a b : DataW H} : Rows.uptoBulk (.agg [a, b]) = Rows.uptoBulk a + Rows.uptoBulk b + 1 := by simp [Rows.uptoBulk, Rows.uptoBulkAll]
theorem open_z {H : Type} {enc : TypeId × Value → H} {W : World} {r : Reach} {b0 base : Nat} {v : Value} {d : DataW H} {ps : List MemPlace} {l : List (DataW H)} {j : Nat}
    (hk : Rows.uptoSmall H l = true) (hd : l[j]? = some d) (hval : Value.okWide Try.prog W r b0 24 v)
    (h : DataW.Trod enc Try.prog W base (fun _ => true) true 24 v d ps) : ∃ z, Az 1048576 W v z := by
  obtain ⟨c0, c1, y0, y1, m, rfl, rfl, rfl, hy0, hy1⟩ := open_agg2 Try.underlying24 (by kernel_rfl) (by kernel_rfl) hval h
  obtain ⟨neg, h0, _⟩ := DataW.trod_bool Try.underlying4 hy0
  simp only [List.cons.injEq, and_true] at h0
  subst h0
  have hb := bulk_at hk hd
  rw [bulk_parts] at hb
  rcases open_ints Try.underlying22 Try.underlying62 (by kernel_rfl) hy1 with ⟨hcs, _⟩ | ⟨x, n, cc, zs, hcs, _, hl, _, hz, hx, hcell, hwz⟩
  · simp only [List.cons.injEq, and_true] at hcs
    subst hcs
    exact ⟨_, neg, none, 0, 0, [], rfl, Sl.nil _ _ _, rfl, by omega⟩
  · simp only [List.cons.injEq, and_true] at hcs
    subst hcs
    have hz' : zs.length = cc := by simpa using hz
    have h1 := bulk_len (lits (H := H) .u32 (zs.take n))
    have h2 : (lits (H := H) .u32 (zs.take n)).length = n := by simp [lits]; omega
    have hn : n ≤ 1048576 := by
      rw [hx] at hb
      simp only [Rows.uptoBulk] at hb
      omega
    refine ⟨_, neg, some x, n, cc, zs.take n, rfl, ⟨?_, ?_, hl, by omega, ?_⟩, rfl, hn⟩
    · intro y hy
      have := hwz y (List.mem_of_mem_take hy)
      simp [Lit.wf] at this
      have h2 := this
      simp [IntKind.min, IntKind.max, IntKind.bits, IntKind.signed] at h2
      omega
    · rw [List.length_take]; omega
    · intro h0
      have h00 := hcell 0 (by omega)
      rw [show x.add 0 = x from rfl] at h00
      have hsp := cell_spot h00
      refine ⟨x.block, x.off, by rw [← hsp], World.block_lt_of_cell? W x h00, fun i hi => ?_⟩
      have hi' := hcell i (by omega)
      rw [hsp, addr_add] at hi'
      rw [hi', List.getD_eq_getElem?_getD, List.getD_eq_getElem?_getD, List.getElem?_take, if_pos hi]
end Go.Proofs.Ytkidgeeedigkhaa
