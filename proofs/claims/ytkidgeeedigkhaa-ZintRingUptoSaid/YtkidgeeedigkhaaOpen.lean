/- How an argument of the type []uint32 reads: as a slice of limbs. -/
import Derived.Test.YtkidgeeedigkhaaMem
import Derived.SizedLaws
import Derived.ChangeSlices
import Derived.ProofKit
import Derived.OpenShut
namespace Go.Proofs.Ytkidgeeedigkhaa
open Go.RowKit Go.ChangeShapes Go.WideShapes

theorem cell_spot {w : World} {x : Addr} {v : Value} (h : w.cell? x = some v) : x = ⟨x.block, x.off, none⟩ := by
  unfold World.cell? at h
  split at h
  · split at h
    · cases h
    · rename_i hs
      obtain ⟨b, o, s⟩ := x
      cases s with
      | none => rfl
      | some _ => exact absurd rfl hs
  · cases h

theorem open_u32 {H : Type} {enc : TypeId × Value → H} {W : World} {base : Nat} {A : Option Addr} {n c : Nat} {d : DataW H} {ps : List MemPlace} {ts : List TypeId} {ds : List (DataW H)} {j : Nat}
    (hsz : (DataW.weightsEach Try.prog ts ds).all (· ≤ reachBytes) = true) (ht : ts[j]? = some 22) (hd : ds[j]? = some d)
    (h : DataW.Trod enc Try.prog W base (fun _ => true) true 22 (.slice A n c) d ps) : n ≤ 35184372087808 ∧ ∃ l, Sl W A n c l := by
  obtain ⟨fuel, hf⟩ := h
  rcases open_ints Try.underlying22 Try.underlying62 (by kernel_rfl) hf with ⟨hcs, _⟩ | ⟨x, l, cc, zs, hcs, _, hl, _, hz, hx, hcell, hwz⟩
  · simp [Value.cells] at hcs
    obtain ⟨rfl, rfl, rfl⟩ := hcs
    exact ⟨by omega, [], Sl.nil _ _ _⟩
  · simp [Value.cells] at hcs
    obtain ⟨rfl, rfl, rfl⟩ := hcs
    obtain ⟨hx, _⟩ := Prod.mk.inj hx
    subst hx
    have z := sized_slice hsz ht hd Try.underlying22
    have hB : Try.prog.bytesOf 62 = 4 := by kernel_rfl
    rw [hB] at z
    have hz' : zs.length = c := by simpa using hz
    have h1 : (lits (H := H) .u32 (zs.take n)).length + (lits (H := H) .u32 (zs.drop n)).length = zs.length := by
      simp [lits]
      omega
    rw [h1, hz'] at z
    have hr : reachBytes = 140737488351232 := rfl
    rw [hr] at z
    refine ⟨by omega, zs.take n, ?_, ?_, hl, by omega, ?_⟩
    · intro y hy
      have := hwz y (List.mem_of_mem_take hy)
      simp [Lit.wf] at this
      have h2 := this
      simp [IntKind.min, IntKind.max, IntKind.bits, IntKind.signed] at h2
      omega
    · rw [List.length_take]; omega
    · intro h0
      have h00 := hcell 0 (by omega)
      rw [show x.add 0 = x from rfl] at h00
      have hsp := cell_spot h00
      refine ⟨x.block, x.off, by rw [← hsp], World.block_lt_of_cell? W x h00, fun i hi => ?_⟩
      have hi' := hcell i (by omega)
      rw [hsp, addr_add] at hi'
      rw [hi', List.getD_eq_getElem?_getD, List.getD_eq_getElem?_getD, List.getElem?_take, if_pos hi]
end Go.Proofs.Ytkidgeeedigkhaa
