
/- zint.Text by the number's text. -/
import Derived.Test.YtdmahjbjlppeaaaA6
import Derived.Test.YtdmahjbjlppeaaaA4
namespace Go.Proofs.Ytdmahjbjlppeaaa
open Go.RowKit

theorem ztext_k {w : World} {x : Value} {z : Int} {N : Nat} (h : Az N w x z) (hN : N ≤ 4398046511104) : Calls Try.prog 71 #[x] w (Ret (.is (.string (ztxt z))) w) := by
  obtain ⟨neg, A, n, c, l, rfl, hS, rfl, hn⟩ := h
  exact (ztext_calls w neg A n c l hS (by omega)).mono fun _ _ h => ret_is h
end Go.Proofs.Ytdmahjbjlppeaaa
