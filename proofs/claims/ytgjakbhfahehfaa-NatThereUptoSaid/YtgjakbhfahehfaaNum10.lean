/- 'times m and c', one round. -/
import Derived.Test.YtgjakbhfahehfaaNum9
import Derived.Test.YtgjakbhfahehfaaNum4
namespace Go.Proofs.Ytgjakbhfahehfaa
theorem GrowInv.step {X o : List Int} {m v0 : Int} {k : Nat} {c : Int} (h : GrowInv X o m v0 k c) (hX : Lim X) (hm : 0 ≤ m ∧ m < 4294967296) (hk : k < X.length) :
    GrowInv X (o.set k ((c + X.getD k 0 * m) % 4294967296)) m v0 (k + 1) ((c + X.getD k 0 * m) / 4294967296) := by
  have hx := hX.getD k
  have hp := mul_lim hx hm
  have h0 := h.c0
  have h1 := h.c1
  refine ⟨by rw [List.length_set]; exact h.len, drop_set_succ h.tail, h.lim.set k (by omega) (by omega), by omega, by omega, ?_⟩
  rw [val_set_take _ _ _ (by rw [h.len]; exact hk), val_take_succ' X, Nat.pow_succ]
  have e := h.eq
  have hv : (X.getD k 0 * m).toNat = (X.getD k 0).toNat * m.toNat := Int.toNat_mul hx.1 hm.1
  generalize X.getD k 0 * m = p at *
  have hq : ((c + p) % 4294967296).toNat + 4294967296 * ((c + p) / 4294967296).toNat = c.toNat + p.toNat := by omega
  rw [hv] at hq
  generalize ((c + p) % 4294967296).toNat = r at *
  generalize ((c + p) / 4294967296).toNat = t at *
  generalize (X.getD k 0).toNat = x at *
  generalize 4294967296 ^ k = B at *
  have : B * (r + 4294967296 * t) = B * (c.toNat + x * m.toNat) := by rw [hq]
  grind
end Go.Proofs.Ytgjakbhfahehfaa
