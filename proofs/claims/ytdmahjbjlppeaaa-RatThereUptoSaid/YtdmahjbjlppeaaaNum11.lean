
/- Reading the text of a number gives the number. -/
import Derived.Test.YtdmahjbjlppeaaaNum9
import Derived.Laws.BytesArg
namespace Go.Proofs.Ytdmahjbjlppeaaa

def numR : List Int → Nat
  | [] => 0
  | x :: r => 10 * numR r + (x.toNat - 48)
theorem numR_decR (n : Nat) : numR (decR n) = n := by
  induction n using Nat.strongRecOn with
  | ind n ih =>
    rcases Nat.eq_zero_or_pos n with h | h
    · subst h; rw [decR_zero, numR]
    · rw [decR_pos h, numR, ih _ (by omega)]
      omega
theorem decR_last {n : Nat} (h : 0 < n) : ∃ (i : List Int) (d : Int), decR n = i ++ [d] ∧ 49 ≤ d ∧ d ≤ 57 := by
  induction n using Nat.strongRecOn with
  | ind n ih =>
    rw [decR_pos h]
    rcases Nat.eq_zero_or_pos (n / 10) with h1 | h1
    · rw [h1, decR_zero]
      exact ⟨[], _, rfl, by omega, by omega⟩
    · obtain ⟨i, d, e, h2⟩ := ih _ (by omega) h1
      exact ⟨_ :: i, d, by rw [e]; rfl, h2⟩
theorem decs_lim (n : Nat) : ∀ x, x ∈ decs n → 48 ≤ x ∧ x ≤ 57 := by
  intro x hx
  unfold decs at hx
  split at hx
  · simp at hx; omega
  · exact decR_lim n x (by simpa using hx)
theorem decs_pos (n : Nat) : 0 < (decs n).length := by
  unfold decs
  split
  · simp
  · rename_i h
    obtain ⟨i, d, e, _⟩ := decR_last (Nat.pos_of_ne_zero h)
    rw [e]; simp
theorem numR_decs (n : Nat) : numR (decs n).reverse = n := by
  unfold decs
  split
  · rename_i h; subst h; rfl
  · rw [List.reverse_reverse]; exact numR_decR n
theorem decs_head {n : Nat} (h : 1 < (decs n).length) : (decs n).getD 0 0 ≠ 48 := by
  unfold decs at h ⊢
  split at h
  · simp at h
  · rename_i h0
    rw [if_neg h0]
    obtain ⟨i, d, e, h1, h2⟩ := decR_last (Nat.pos_of_ne_zero h0)
    rw [e]; simp; omega
theorem byteN_str {l : List Int} (hl : ∀ x, x ∈ l → 48 ≤ x ∧ x ≤ 57) (i : Nat) (hi : i < l.length) : byteN (strOfNums l) i = (l.getD i 0).toNat := by
  have hs : i < (strOfNums l).size := by rw [strOfNums_size]; exact hi
  rw [byteN_at hs, List.getD_eq_getElem?_getD, List.getElem?_eq_getElem hi, Option.getD_some]
  have hd := hl _ (List.getElem_mem hi)
  have e : (strOfNums l)[i]'hs = (UInt8.ofNat (l[i]'hi).toNat) := by
    simp [strOfNums, ByteArray.getElem_eq_getElem_data]
  rw [e, UInt8.toNat_ofNat']
  omega
theorem dv_str {l : List Int} (hl : ∀ x, x ∈ l → 48 ≤ x ∧ x ≤ 57) (k : Nat) (hk : k ≤ l.length) : dv (strOfNums l) k = numR (l.take k).reverse := by
  induction k with
  | zero => simp [dv, numR]
  | succ k ih =>
    rw [dv, ih (by omega), byteN_str hl k (by omega), List.take_succ_eq_append_getElem (by omega), List.reverse_append, List.reverse_singleton, List.singleton_append, numR, List.getD_eq_getElem?_getD, List.getElem?_eq_getElem (by omega), Option.getD_some]
theorem read_decs (n : Nat) : dv (strOfNums (decs n)) (strOfNums (decs n)).size = n := by
  rw [strOfNums_size, dv_str (decs_lim n) _ (Nat.le_refl _), List.take_length, numR_decs]
theorem good_decs (n j : Nat) (hj : j < (strOfNums (decs n)).size) : ¬ BadAt (strOfNums (decs n)) j := by
  rw [strOfNums_size] at hj
  have h1 := byteN_str (decs_lim n) j hj
  have h2 : 48 ≤ (decs n).getD j 0 ∧ (decs n).getD j 0 ≤ 57 := by
    rw [List.getD_eq_getElem?_getD, List.getElem?_eq_getElem hj, Option.getD_some]
    exact decs_lim n _ (List.getElem_mem hj)
  unfold BadAt
  rintro (h | h | ⟨rfl, h⟩)
  · omega
  · omega
  · have h3 := decs_head hj
    have h4 := byteN_str (decs_lim n) 0 (by omega)
    have h5 : 48 ≤ (decs n).getD 0 0 ∧ (decs n).getD 0 0 ≤ 57 := by
      rw [List.getD_eq_getElem?_getD, List.getElem?_eq_getElem (show 0 < (decs n).length by omega), Option.getD_some]
      exact decs_lim n _ (List.getElem_mem _)
    omega
end Go.Proofs.Ytdmahjbjlppeaaa
