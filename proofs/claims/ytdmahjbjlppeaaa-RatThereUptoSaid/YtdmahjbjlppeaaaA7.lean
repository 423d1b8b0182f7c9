
/- How an argument of the type []uint32 reads: as a slice of limbs. What the bound of the '..UptoSaid' gives a slice of limbs. How an argument of the type api.Int reads: as a number, of so many limbs as the bulk says. -/
import Derived.Test.YtdmahjbjlppeaaaA2
import Derived.SizedLaws
import Derived.ChangeSlices
import Derived.ProofKit
import Derived.OpenShut
import Derived.Test.YtdmahjbjlppeaaaRows
import Derived.Test.YtdmahjbjlppeaaaA4
import Derived.Lib.SmallJoins
namespace Go.Proofs.Ytdmahjbjlppeaaa
open Go.RowKit Go.ChangeShapes Go.WideShapes

theorem cell_spot {w : World} {x : Addr} {v : Value} (h : w.cell? x = some v) : x = ⟨x.block, x.off, none⟩ := by
  unfold World.cell? at h
  split at h
  · split at h
    · cases h
    · rename_i hs
      obtain ⟨b, o, s⟩ := x
      cases s with
      | none => rfl
      | some _ => exact absurd rfl hs
  · cases h

theorem open_u32 {H : Type} {enc : TypeId × Value → H} {W : World} {base : Nat} {A : Option Addr} {n c : Nat} {d : DataW H} {ps : List MemPlace} {ts : List TypeId} {ds : List (DataW H)} {j : Nat}
    (hsz : (DataW.weightsEach Try.prog ts ds).all (· ≤ reachBytes) = true) (ht : ts[j]? = some 22) (hd : ds[j]? = some d)
    (h : DataW.Trod enc Try.prog W base (fun _ => true) true 22 (.slice A n c) d ps) : n ≤ 35184372087808 ∧ ∃ l, Sl W A n c l := by
  obtain ⟨fuel, hf⟩ := h
  rcases open_ints Try.underlying22 Try.underlying68 (by kernel_rfl) hf with ⟨hcs, _⟩ | ⟨x, l, cc, zs, hcs, _, hl, _, hz, hx, hcell, hwz⟩
  · simp [Value.cells] at hcs
    obtain ⟨rfl, rfl, rfl⟩ := hcs
    exact ⟨by omega, [], Sl.nil _ _ _⟩
  · simp [Value.cells] at hcs
    obtain ⟨rfl, rfl, rfl⟩ := hcs
    obtain ⟨hx, _⟩ := Prod.mk.inj hx
    subst hx
    have z := sized_slice hsz ht hd Try.underlying22
    have hB : Try.prog.bytesOf 68 = 4 := by kernel_rfl
    rw [hB] at z
    have hz' : zs.length = c := by simpa using hz
    have h1 : (lits (H := H) .u32 (zs.take n)).length + (lits (H := H) .u32 (zs.drop n)).length = zs.length := by
      simp [lits]
      omega
    rw [h1, hz'] at z
    have hr : reachBytes = 140737488351232 := rfl
    rw [hr] at z
    refine ⟨by omega, zs.take n, ?_, ?_, hl, by omega, ?_⟩
    · intro y hy
      have := hwz y (List.mem_of_mem_take hy)
      simp [Lit.wf] at this
      have h2 := this
      simp [IntKind.min, IntKind.max, IntKind.bits, IntKind.signed] at h2
      omega
    · rw [List.length_take]; omega
    · intro h0
      have h00 := hcell 0 (by omega)
      rw [show x.add 0 = x from rfl] at h00
      have hsp := cell_spot h00
      refine ⟨x.block, x.off, by rw [← hsp], World.block_lt_of_cell? W x h00, fun i hi => ?_⟩
      have hi' := hcell i (by omega)
      rw [hsp, addr_add] at hi'
      rw [hi', List.getD_eq_getElem?_getD, List.getD_eq_getElem?_getD, List.getElem?_take, if_pos hi]
end Go.Proofs.Ytdmahjbjlppeaaa

namespace Go.Proofs.Ytdmahjbjlppeaaa
open Go.RowKit Go.ChangeShapes Go.WideShapes

theorem bulk_pos {H : Type} (d : DataW H) : 1 ≤ Rows.uptoBulk d := by
  cases d with
  | lit l => cases l <;> simp [Rows.uptoBulk]
  | _ => simp [Rows.uptoBulk]
theorem bulk_len {H : Type} (l : List (DataW H)) : l.length ≤ Rows.uptoBulkAll l := by
  induction l with
  | nil => simp [Rows.uptoBulkAll]
  | cons x r ih => have := bulk_pos x; simp only [Rows.uptoBulkAll, List.length_cons]; omega
theorem bulk_get {H : Type} {l : List (DataW H)} {j : Nat} {d : DataW H} (h : l[j]? = some d) : Rows.uptoBulk d ≤ Rows.uptoBulkAll l := by
  induction l generalizing j with
  | nil => simp at h
  | cons x r ih =>
    simp only [Rows.uptoBulkAll]
    cases j with
    | zero => simp at h; subst h; omega
    | succ j => have := ih (j := j) (by simpa using h); omega
theorem bulk_at {H : Type} {l : List (DataW H)} (hk : Rows.uptoSmall H l = true) {j : Nat} {d : DataW H} (h : l[j]? = some d) : Rows.uptoBulk d ≤ 1048576 := by
  have h1 : Rows.uptoBulkAll l ≤ 1048576 := by simpa [Rows.uptoSmall] using hk
  have h2 := bulk_get h
  omega

theorem open_u32b {H : Type} {enc : TypeId × Value → H} {W : World} {base : Nat} {A : Option Addr} {n c : Nat} {d : DataW H} {ps : List MemPlace} {l : List (DataW H)} {j : Nat}
    (hk : Rows.uptoSmall H l = true) (hd : l[j]? = some d)
    (h : DataW.Trod enc Try.prog W base (fun _ => true) true 22 (.slice A n c) d ps) : n ≤ 1048576 := by
  obtain ⟨fuel, hf⟩ := h
  rcases open_ints Try.underlying22 Try.underlying68 (by kernel_rfl) hf with ⟨hcs, _⟩ | ⟨x, l, cc, zs, hcs, _, hl, _, hz, hx, hcell, hwz⟩
  · simp [Value.cells] at hcs
    obtain ⟨rfl, rfl, rfl⟩ := hcs
    omega
  · simp [Value.cells] at hcs
    obtain ⟨rfl, rfl, rfl⟩ := hcs
    obtain ⟨hx, _⟩ := Prod.mk.inj hx
    subst hx
    have hb := bulk_at hk hd
    have hz' : zs.length = c := by simpa using hz
    have h1 := bulk_len (lits (H := H) .u32 (zs.take n))
    have h2 : (lits (H := H) .u32 (zs.take n)).length = n := by simp [lits]; omega
    simp only [Rows.uptoBulk] at hb
    omega
end Go.Proofs.Ytdmahjbjlppeaaa

namespace Go.Proofs.Ytdmahjbjlppeaaa
open Go.RowKit Go.ChangeShapes Go.WideShapes Go.Joins

theorem bulk_parts {H : Type} {a b : DataW H} : Rows.uptoBulk (.agg [a, b]) = Rows.uptoBulk a + Rows.uptoBulk b + 1 := by simp [Rows.uptoBulk, Rows.uptoBulkAll]
set_option maxRecDepth 100000 in
theorem open_z {H : Type} {enc : TypeId × Value → H} {W : World} {r : Reach} {b0 base : Nat} {v : Value} {d : DataW H} {ps : List MemPlace} {l : List (DataW H)} {j : Nat}
    (hk : Rows.uptoSmall H l = true) (hd : l[j]? = some d) (hval : Value.okWide Try.prog W r b0 24 v)
    (h : DataW.Trod enc Try.prog W base (fun _ => true) true 24 v d ps) : ∃ z, Az 1048576 W v z := by
  obtain ⟨c0, c1, y0, y1, m, rfl, rfl, rfl, hy0, hy1⟩ := open_agg2 Try.underlying24 (by kernel_rfl) (by kernel_rfl) hval h
  obtain ⟨neg, h0, _⟩ := DataW.trod_bool Try.underlying4 hy0
  simp only [List.cons.injEq, and_true] at h0
  subst h0
  have hb := bulk_at hk hd
  rw [bulk_parts] at hb
  rcases open_ints Try.underlying22 Try.underlying68 (by kernel_rfl) hy1 with ⟨hcs, _⟩ | ⟨x, n, cc, zs, hcs, _, hl, _, hz, hx, hcell, hwz⟩
  · simp only [List.cons.injEq, and_true] at hcs
    subst hcs
    exact ⟨_, neg, none, 0, 0, [], rfl, Sl.nil _ _ _, rfl, by omega⟩
  · simp only [List.cons.injEq, and_true] at hcs
    subst hcs
    have hz' : zs.length = cc := by simpa using hz
    have h1 := bulk_len (lits (H := H) .u32 (zs.take n))
    have h2 : (lits (H := H) .u32 (zs.take n)).length = n := by simp [lits]; omega
    have hn : n ≤ 1048576 := by
      rw [hx] at hb
      simp only [Rows.uptoBulk] at hb
      omega
    refine ⟨_, neg, some x, n, cc, zs.take n, rfl, ⟨?_, ?_, hl, by omega, ?_⟩, rfl, hn⟩
    · intro y hy
      have := hwz y (List.mem_of_mem_take hy)
      simp [Lit.wf] at this
      have h2 := this
      simp [IntKind.min, IntKind.max, IntKind.bits, IntKind.signed] at h2
      omega
    · rw [List.length_take]; omega
    · intro h0
      have h00 := hcell 0 (by omega)
      rw [show x.add 0 = x from rfl] at h00
      have hsp := cell_spot h00
      refine ⟨x.block, x.off, by rw [← hsp], World.block_lt_of_cell? W x h00, fun i hi => ?_⟩
      have hi' := hcell i (by omega)
      rw [hsp, addr_add] at hi'
      rw [hi', List.getD_eq_getElem?_getD, List.getD_eq_getElem?_getD, List.getElem?_take, if_pos hi]
end Go.Proofs.Ytdmahjbjlppeaaa
