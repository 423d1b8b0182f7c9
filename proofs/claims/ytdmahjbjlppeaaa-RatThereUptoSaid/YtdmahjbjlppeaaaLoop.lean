
/- Loops, with what is known of the frame's slots and a measure that is handed on. -/
import Derived.Test.YtdmahjbjlppeaaaA5
namespace Go.Proofs.Ytdmahjbjlppeaaa
open Go.RowKit

def litv (n : Nat) (y : Nat → Value) : Array Value := ((List.range n).map y).toArray
theorem litv_eq {ts : Array Value} {n : Nat} (h : ts.size = n) : litv n (fun t => ts.getD t undef) = ts := by
  apply Array.ext
  · simp [litv, h]
  intro i h1 h2
  simp only [litv, List.getElem_toArray, List.getElem_map, List.getElem_range]
  simp [h2]
theorem wp_loop_v {P : Program} {c : Code} {Q : Exit → Act → World → Prop} {a : Act} {w : World} (N : Nat) (I : Nat → (Nat → Value) → World → Prop) (hs : a.tmps.size = N) (hd : a.defers = [])
    (h0 : ∃ k, I k (Act.vs a) w) (round : ∀ k y w, I k y w → c.wp P (Exit.then (fun a' w' => a'.tmps.size = N ∧ a'.defers = [] ∧ ∃ m, m < k ∧ I m (Act.vs a') w') Q) ⟨litv N y, []⟩ w) :
    (Code.loop c).wp P Q a w := by
  have key : ∀ k (a : Act) (w : World), a.tmps.size = N → a.defers = [] → I k (Act.vs a) w → ∀ (b : Frame) (K : List Item) (cs : List Frame),
      ∃ e a' w', Q e a' w' ∧ Arrives P (lone (b.at a (.code c :: .inLoop c :: K)) cs w) b K cs e a' w' := by
    intro k
    induction k using Nat.strongRecOn with
    | _ n ih =>
      intro a w hs hd hI b K cs
      have ha : a = ⟨litv N (Act.vs a), []⟩ := by
        obtain ⟨ts, ds⟩ := a
        simp only at hs hd
        subst hd
        show (⟨ts, []⟩ : Act) = ⟨litv N (fun t => ts.getD t undef), []⟩
        rw [litv_eq hs]
      obtain ⟨e, a₁, w₁, hq, harr⟩ := round n (Act.vs a) w hI b (.inLoop c :: K) cs
      rw [← ha] at harr
      cases e with
      | normal =>
        obtain ⟨hs1, hd1, m, hlt, hI₁⟩ := hq
        obtain ⟨e₂, a₂, w₂, hq₂, harr₂⟩ := ih m hlt a₁ w₁ hs1 hd1 hI₁ b K cs
        exact ⟨e₂, a₂, w₂, hq₂, .of_steps (Steps.trans harr (.one step_inLoop)) harr₂⟩
      | exit id => exact ⟨_, a₁, w₁, hq, .pass (x := .inLoop c) rfl (fun _ _ => .inl (by simp)) harr⟩
      | goto l => exact ⟨_, a₁, w₁, hq, .pass (x := .inLoop c) rfl (fun _ _ => .inl (by simp)) harr⟩
      | ret => exact ⟨_, a₁, w₁, hq, .pass (x := .inLoop c) rfl (fun _ _ => .inl (by simp)) harr⟩
      | panic ch => exact ⟨_, a₁, w₁, hq, .pass (x := .inLoop c) rfl (fun _ _ => .inl (by simp)) harr⟩
      | outgrown => exact ⟨_, a₁, w₁, hq, .pass (x := .inLoop c) rfl (fun _ _ => .inl (by simp)) harr⟩
  intro b K cs
  obtain ⟨k, hI⟩ := h0
  obtain ⟨e, a', w', hq, harr⟩ := key k a w hs hd hI b K cs
  exact ⟨e, a', w', hq, .of_steps (.one step_loop) harr⟩
/-- A cut: what stands ahead of it is walked way by way, what follows once. -/
theorem wp_cut_v {P : Program} {c : Code} {K : Act → World → Prop} {Q : Exit → Act → World → Prop} {a : Act} {w : World} (N : Nat) (I : (Nat → Value) → World → Prop)
    (first : c.wp P (Exit.then (fun a' w' => a'.tmps.size = N ∧ a'.defers = [] ∧ I (Act.vs a') w') Q) a w) (rest : ∀ y w, I y w → K ⟨litv N y, []⟩ w) : c.wp P (Exit.then K Q) a w := by
  refine Code.wp_mono (fun e a w h => ?_) first
  cases e with
  | normal =>
    obtain ⟨hs, hd, hI⟩ := h
    have ha : a = ⟨litv N (Act.vs a), []⟩ := by
      obtain ⟨ts, ds⟩ := a
      simp only at hs hd
      subst hd
      show (⟨ts, []⟩ : Act) = ⟨litv N (fun t => ts.getD t undef), []⟩
      rw [litv_eq hs]
    have := rest _ _ hI
    rw [← ha] at this
    exact this
  | exit id => exact h
  | goto l => exact h
  | ret => exact h
  | panic ch => exact h
  | outgrown => exact h
end Go.Proofs.Ytdmahjbjlppeaaa
