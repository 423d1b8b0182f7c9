
/- The law RatNames. -/
import Derived.Test.YtdmahjbjlppeaaaQ5
namespace Go.Proofs.Ytdmahjbjlppeaaa
open Go.RowKit

theorem ratNames_law (w : World)   :
    Calls Try.prog 3 #[] w fun e w' => e = .returned (.bool true) ∧ Below w.heap.size w w' := by
  have fin : Calls Try.prog 3 #[] w (Ret (.is (.bool true)) w) := by
    exact ratNames_walk
  refine fin.mono fun e w' h => ?_
  obtain ⟨r, e, hr, hB⟩ := h
  have hr : r = .bool true := hr
  exact ⟨by rw [e, hr], hB⟩
end Go.Proofs.Ytdmahjbjlppeaaa
