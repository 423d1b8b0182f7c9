
/- How an argument of the type api.Rat reads: as two numbers. -/
import Derived.Test.YtdmahjbjlppeaaaA7
import Derived.Test.YtdmahjbjlppeaaaRegR
namespace Go.Proofs.Ytdmahjbjlppeaaa
open Go.RowKit Go.ChangeShapes Go.WideShapes Go.Joins

/-- The cells of a number, as the reading takes them. -/
theorem cells_z {H : Type} {enc : TypeId × Value → H} {W : World} {base fuel : Nat} {c0 c1 : Value} {x : DataW H × List MemPlace} (hb : Rows.uptoBulk x.1 ≤ 1048576)
    (h : DataW.trod enc Try.prog W base (fun _ => true) true fuel 24 [c0, c1] = some x) : ∃ z, Az 1048576 W (.agg #[c0, c1]) z := by
  have s0 : Try.prog.cellsOf 4 = 1 := by kernel_rfl
  have s1 : Try.prog.cellsOf 22 = 1 := by kernel_rfl
  obtain ⟨y0, y1, m, hx, _, h0, h1⟩ := trod_struct2 Try.underlying24 h
  subst hx
  simp only [s0, s1, List.drop_zero, List.drop_succ_cons, List.take_succ_cons, List.take_zero] at h0 h1
  obtain ⟨neg, e0, _⟩ := DataW.trod_bool Try.underlying4 h0
  simp only [List.cons.injEq, and_true] at e0
  subst e0
  rw [bulk_parts] at hb
  rcases open_ints Try.underlying22 Try.underlying68 (by kernel_rfl) h1 with ⟨hcs, _⟩ | ⟨x, n, cc, zs, hcs, _, hl, _, hz, hx, hcell, hwz⟩
  · simp only [List.cons.injEq, and_true] at hcs
    subst hcs
    exact ⟨_, neg, none, 0, 0, [], rfl, Sl.nil _ _ _, rfl, by omega⟩
  · simp only [List.cons.injEq, and_true] at hcs
    subst hcs
    have hz' : zs.length = cc := by simpa using hz
    have h1 := bulk_len (lits (H := H) .u32 (zs.take n))
    have h2 : (lits (H := H) .u32 (zs.take n)).length = n := by simp [lits]; omega
    have hn : n ≤ 1048576 := by
      rw [hx] at hb
      simp only [Rows.uptoBulk] at hb
      omega
    refine ⟨_, neg, some x, n, cc, zs.take n, rfl, ⟨?_, ?_, hl, by omega, ?_⟩, rfl, hn⟩
    · intro y hy
      have := hwz y (List.mem_of_mem_take hy)
      simp [Lit.wf] at this
      have h2 := this
      simp [IntKind.min, IntKind.max, IntKind.bits, IntKind.signed] at h2
      omega
    · rw [List.length_take]; omega
    · intro h0
      have h00 := hcell 0 (by omega)
      rw [show x.add 0 = x from rfl] at h00
      have hsp := cell_spot h00
      refine ⟨x.block, x.off, by rw [← hsp], World.block_lt_of_cell? W x h00, fun i hi => ?_⟩
      have hi' := hcell i (by omega)
      rw [hsp, addr_add] at hi'
      rw [hi', List.getD_eq_getElem?_getD, List.getD_eq_getElem?_getD, List.getElem?_take, if_pos hi]
set_option maxRecDepth 100000 in
theorem open_r {H : Type} {enc : TypeId × Value → H} {W : World} {r : Reach} {b0 base : Nat} {v : Value} {d : DataW H} {ps : List MemPlace} {l : List (DataW H)} {j : Nat}
    (hk : Rows.uptoSmall H l = true) (hd : l[j]? = some d) (hval : Value.okWide Try.prog W r b0 29 v)
    (h : DataW.Trod enc Try.prog W base (fun _ => true) true 29 v d ps) : ∃ z : Int × Int, Rz 1048576 W v z.1 z.2 := by
  have s2 : Try.prog.cellsOf 24 = 2 := by kernel_rfl
  have s4 : Try.prog.cellsOf 29 = 4 := by kernel_rfl
  obtain ⟨cs, rfl, hsz⟩ := okWide_struct Try.underlying29 hval
  obtain ⟨x0, x1, x2, x3, rfl⟩ : ∃ x0 x1 x2 x3, cs = #[x0, x1, x2, x3] := by
    have hsz := hsz.trans s4
    obtain ⟨l⟩ := cs
    match l, hsz with
    | [x0, x1, x2, x3], _ => exact ⟨x0, x1, x2, x3, rfl⟩
  have hb := bulk_at hk hd
  obtain ⟨fuel, hf⟩ := h
  obtain ⟨y0, y1, n, hx, _, h0, h1⟩ := trod_struct2 Try.underlying29 hf
  simp only [Prod.mk.injEq] at hx
  rw [hx.1, bulk_parts] at hb
  simp only [s2, Value.cells, List.drop_zero, List.drop_succ_cons, List.take_succ_cons, List.take_zero] at h0 h1
  obtain ⟨z0, k0⟩ := cells_z (by omega) h0
  obtain ⟨z1, k1⟩ := cells_z (by omega) h1
  exact ⟨(z0, z1), pair_mk k0 k1⟩
end Go.Proofs.Ytdmahjbjlppeaaa
