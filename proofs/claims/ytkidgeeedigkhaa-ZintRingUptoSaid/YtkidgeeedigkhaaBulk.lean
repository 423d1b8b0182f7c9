/- What the bound of the '..UptoSaid' gives a slice of limbs. -/
import Derived.Test.YtkidgeeedigkhaaRows
import Derived.Test.YtkidgeeedigkhaaOpen
namespace Go.Proofs.Ytkidgeeedigkhaa
open Go.RowKit Go.ChangeShapes Go.WideShapes

theorem bulk_pos {H : Type} (d : DataW H) : 1 ≤ Rows.uptoBulk d := by
  cases d with
  | lit l => cases l <;> simp [Rows.uptoBulk]
  | _ => simp [Rows.uptoBulk]
theorem bulk_len {H : Type} (l : List (DataW H)) : l.length ≤ Rows.uptoBulkAll l := by
  induction l with
  | nil => simp [Rows.uptoBulkAll]
  | cons x r ih => have := bulk_pos x; simp only [Rows.uptoBulkAll, List.length_cons]; omega
theorem bulk_get {H : Type} {l : List (DataW H)} {j : Nat} {d : DataW H} (h : l[j]? = some d) : Rows.uptoBulk d ≤ Rows.uptoBulkAll l := by
  induction l generalizing j with
  | nil => simp at h
  | cons x r ih =>
    simp only [Rows.uptoBulkAll]
    cases j with
    | zero => simp at h; subst h; omega
    | succ j => have := ih (j := j) (by simpa using h); omega
theorem bulk_at {H : Type} {l : List (DataW H)} (hk : Rows.uptoSmall H l = true) {j : Nat} {d : DataW H} (h : l[j]? = some d) : Rows.uptoBulk d ≤ 1048576 := by
  have h1 : Rows.uptoBulkAll l ≤ 1048576 := by simpa [Rows.uptoSmall] using hk
  have h2 := bulk_get h
  omega

theorem open_u32b {H : Type} {enc : TypeId × Value → H} {W : World} {base : Nat} {A : Option Addr} {n c : Nat} {d : DataW H} {ps : List MemPlace} {l : List (DataW H)} {j : Nat}
    (hk : Rows.uptoSmall H l = true) (hd : l[j]? = some d)
    (h : DataW.Trod enc Try.prog W base (fun _ => true) true 22 (.slice A n c) d ps) : n ≤ 1048576 := by
  obtain ⟨fuel, hf⟩ := h
  rcases open_ints Try.underlying22 Try.underlying62 (by kernel_rfl) hf with ⟨hcs, _⟩ | ⟨x, l, cc, zs, hcs, _, hl, _, hz, hx, hcell, hwz⟩
  · simp [Value.cells] at hcs
    obtain ⟨rfl, rfl, rfl⟩ := hcs
    omega
  · simp [Value.cells] at hcs
    obtain ⟨rfl, rfl, rfl⟩ := hcs
    obtain ⟨hx, _⟩ := Prod.mk.inj hx
    subst hx
    have hb := bulk_at hk hd
    have hz' : zs.length = c := by simpa using hz
    have h1 := bulk_len (lits (H := H) .u32 (zs.take n))
    have h2 : (lits (H := H) .u32 (zs.take n)).length = n := by simp [lits]; omega
    simp only [Rows.uptoBulk] at hb
    omega
end Go.Proofs.Ytkidgeeedigkhaa
