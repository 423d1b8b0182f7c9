/- zint.two -/
import Derived.Test.YtkidgeeedigkhaaA6
namespace Go.Proofs.Ytkidgeeedigkhaa
open Go.RowKit

set_option maxHeartbeats 1000000 in
set_option maxRecDepth 8000 in
theorem ztwo_calls (w : World) (m : Nat) (hm : m < 1125899906842592) :
    Calls Try.prog 64 #[.int .i64 m] w (RetNum (2 ^ m) w) := by
  have htd := two_digs m
  obtain ⟨q, hq⟩ : ∃ q, q = m / 32 := ⟨_, rfl⟩
  obtain ⟨s, hs⟩ : ∃ s, s = m % 32 := ⟨_, rfl⟩
  have hlt : 2 ^ s < 2 ^ 32 := Nat.pow_lt_pow_right (by omega) (by omega)
  rw [← hq, ← hs] at htd
  have hqi : (m : Int) / 32 = (q : Int) := by omega
  have hsi : (m : Int) % 32 = (s : Int) := by omega
  have hqb : q + 1 < 35184372088832 := by omega
  have hdl : (digs (2 ^ m)).length = q + 1 := by rw [← htd]; simp
  have hset : (List.replicate (q + 1) (0 : Int)).set q ((2 ^ s : Nat) : Int) = digs (2 ^ m) := by
    rw [← htd, List.replicate_succ', List.set_append_right _ _ (by simp)]
    simp
  have hpc : (2 : Int) ^ s % 4294967296 = ((2 ^ s : Nat) : Int) := by
    have : (2 : Int) ^ s = ((2 ^ s : Nat) : Int) := by rw [Int.natCast_pow]; rfl
    rw [this]
    exact Int.emod_eq_of_lt (Int.natCast_nonneg _) (Int.ofNat_lt.2 hlt)
  have hw1 : IntKind.i64.wrap ((q : Int) + 1) = (q : Int) + 1 := by rw [IntKind.wrap_i64]; omega
  generalize hP : ((2 ^ s : Nat) : Int) = P at *
  have hp0 : 0 ≤ P := by omega
  have hp1 : P < 4294967296 := by omega
  replace hP := Lib.hid hP
  replace hdl := Lib.hid hdl
  replace htd := Lib.hid htd
  replace hset := Lib.hid hset
  replace hm := Lib.hid hm
  have hs31 : (s : Int) < 32 := by omega
  clear hq hlt hs
  go_enter Try.func64, Try.ntmps64
  go_wp2_with (at_make; refine make_u32 _ rfl _ _ rfl (q + 1) _ _ _ _ rfl rfl ?_ ?_ ?_ ?_; omega; rfl; rfl; intro w1 hR hB; have hcell := hR.cell q (by omega); have hfr := hR.frozen q)
  have hS := (hR.stored q hp0 hp1).toOwn
  rw [hset.out] at hS
  go_ret
  refine ⟨some ⟨w.heap.size, 0, none⟩, q + 1, by rw [hdl.out]; rfl, by rw [hdl.out]; exact hS, hB.setCell (p := ⟨w.heap.size, q, none⟩) (Nat.le_refl _) _⟩
theorem ztwo_k {w : World} {x : Value} {a K : Nat} (hx : x = .int .i64 a) (ha : a < 1125899906842592) (hK : a / 32 + 1 ≤ K) : Calls Try.prog 64 #[x] w (Ret (.nz K (2 ^ a)) w) := by
  subst hx
  refine (ztwo_calls w a ha).mono fun _ _ h => h.k (digs_len_le ?_)
  have e : (4294967296 : Nat) ^ K = 2 ^ (32 * K) := by rw [Nat.pow_mul]
  rw [e]
  exact Nat.pow_lt_pow_right (by omega) (by omega)
end Go.Proofs.Ytkidgeeedigkhaa
