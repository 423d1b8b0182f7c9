/- The reference's quotient, limb by limb from the top. -/
import Derived.Test.YtgjakbhfahehfaaNum6
namespace Go.Proofs.Ytgjakbhfahehfaa

structure RDivInv (U : List Int) (V R : Nat) (Q : List Int) (k : Nat) : Prop where
  limQ : Lim Q
  lt : R < V
  eq : val (U.drop k) = val (Q.drop k) * V + R
  z : ∀ j, j < k → Q.getD j 0 = 0
theorem RDivInv.bound {U : List Int} {V R : Nat} {Q : List Int} {i : Nat} (h : RDivInv U V R Q (i + 1)) (hU : Lim U) : (U.getD i 0).toNat + 4294967296 * R < 4294967296 * V := by
  have hx := hU.getD i
  have := h.lt
  omega
theorem RDivInv.skip {U : List Int} {V R : Nat} {Q : List Int} {i : Nat} (h : RDivInv U V R Q (i + 1)) (hi : i < U.length) (hQ : i < Q.length) (hlt : (U.getD i 0).toNat + 4294967296 * R < V) :
    RDivInv U V ((U.getD i 0).toNat + 4294967296 * R) Q i := by
  refine ⟨h.limQ, hlt, ?_, fun j hj => h.z j (by omega)⟩
  have e := h.eq
  rw [val_drop_eq U i hi, val_drop_eq Q i hQ, h.z i (by omega), e]
  simp only [Int.toNat_zero, Nat.zero_add]
  grind
theorem RDivInv.take {U : List Int} {V R : Nat} {Q : List Int} {i : Nat} (h : RDivInv U V R Q (i + 1)) (hU : Lim U) (hi : i < U.length) (hQ : i < Q.length) :
    RDivInv U V (((U.getD i 0).toNat + 4294967296 * R) % V) (Q.set i ((((U.getD i 0).toNat + 4294967296 * R) / V : Nat) : Int)) i := by
  have hb := h.bound hU
  have hq : ((U.getD i 0).toNat + 4294967296 * R) / V < 4294967296 := Nat.div_lt_of_lt_mul (by rw [Nat.mul_comm V]; exact hb)
  refine ⟨h.limQ.set i (Int.natCast_nonneg _) (Int.ofNat_lt.2 hq), Nat.mod_lt _ (by have := h.lt; omega), ?_, fun j hj => by rw [getD_set_ne _ _ _ _ (by omega)]; exact h.z j (by omega)⟩
  have e := h.eq
  rw [val_drop_eq U i hi, val_drop_set hQ, Int.toNat_natCast, e]
  have hm := Nat.div_add_mod ((U.getD i 0).toNat + 4294967296 * R) V
  generalize ((U.getD i 0).toNat + 4294967296 * R) / V = q at *
  generalize ((U.getD i 0).toNat + 4294967296 * R) % V = r at *
  grind
theorem RDivInv.last {U : List Int} {V R : Nat} {Q : List Int} (h : RDivInv U V R Q 0) : val Q = val U / V ∧ R = val U % V := by
  have e := h.eq
  have l := h.lt
  simp only [List.drop_zero] at e
  rw [e, Nat.mul_comm, Nat.mul_add_div (by omega), Nat.div_eq_of_lt l, Nat.mul_add_mod, Nat.mod_eq_of_lt l]
  omega
theorem RDivInv.start {U : List Int} {V : Nat} (hV : 0 < V) (n : Nat) (hn : U.length = n) : RDivInv U V 0 (List.replicate n 0) n :=
  ⟨Lim.replicate _, hV, by rw [val_drop_ge U n (by omega), val_drop_ge (List.replicate n 0) n (by simp)]; simp, fun j hj => by simp [List.getD_eq_getElem?_getD, hj]⟩
theorem getD_pad (X : List Int) (m i : Nat) : (X ++ List.replicate m 0).getD i 0 = X.getD i 0 := by
  rw [List.getD_eq_getElem?_getD, List.getD_eq_getElem?_getD]
  by_cases h : i < X.length
  · rw [List.getElem?_append_left h]
  · rw [List.getElem?_append_right (by omega), List.getElem?_eq_none (l := X) (by omega), List.getElem?_replicate]
    split <;> rfl
theorem val_pad (X : List Int) (m : Nat) : val (X ++ List.replicate m 0) = val X := by rw [val_append, val_replicate]; simp
/-- The guess is not too small. -/
theorem rguess {R' n : Nat} {V : List Int} (hV : Lim V) (hVl : V.length = n + 1) (htop : 0 < V.getD n 0) (hW : R' < 4294967296 * val V) :
    0 ≤ min (((digs R').getD (n + 1) 0 * 4294967296 + (digs R').getD n 0) / V.getD n 0) 4294967295 ∧ min (((digs R').getD (n + 1) 0 * 4294967296 + (digs R').getD n 0) / V.getD n 0) 4294967295 < 4294967296 ∧
      R' < ((min (((digs R').getD (n + 1) 0 * 4294967296 + (digs R').getD n 0) / V.getD n 0) 4294967295).toNat + 1) * val V := by
  have hl : (digs R').length ≤ n + 2 := digs_len_le (by
    have h1 := val_lt hV
    rw [hVl] at h1
    rw [show n + 2 = n + 1 + 1 by omega, Nat.pow_succ]
    omega)
  have := guess_up (X := digs R' ++ List.replicate (n + 2 - (digs R').length) 0) (V := V) (n := n) ((digs_lim R').append (Lim.replicate _)) hV (by simp; omega) hVl htop (by rw [val_pad, val_digs]; exact hW)
  rw [getD_pad, getD_pad, val_pad, val_digs] at this
  exact this
theorem div_of_bounds {R V g : Nat} (h1 : g * V ≤ R) (h2 : R < (g + 1) * V) : g = R / V ∧ R - g * V = R % V := by
  have hV : 0 < V := by
    rcases Nat.eq_zero_or_pos V with h | h
    · subst h; simp at h2
    · exact h
  have : R / V = g := by
    rw [Nat.div_eq_iff hV]
    rw [Nat.add_mul, Nat.one_mul] at h2
    omega
  refine ⟨this.symm, ?_⟩
  have hm := Nat.div_add_mod R V
  rw [this, Nat.mul_comm] at hm
  omega
end Go.Proofs.Ytgjakbhfahehfaa
