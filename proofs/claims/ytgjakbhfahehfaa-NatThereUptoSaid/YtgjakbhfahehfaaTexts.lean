/- The walk of the statement NatTexts. -/
import Derived.Test.YtgjakbhfahehfaaLaw1
import Derived.Test.YtgjakbhfahehfaaQuot
import Derived.Test.YtgjakbhfahehfaaText
import Derived.Test.YtgjakbhfahehfaaRText
import Derived.Test.YtgjakbhfahehfaaRRead
namespace Go.Proofs.Ytgjakbhfahehfaa
open Go.RowKit

theorem rtext_calls (w : World) (A : Option Addr) (n c : Nat) (l : List Int) (h : Sl w A n c l) (hs : n ≤ 8796093022208) :
    Calls Try.prog 17 #[.slice A n c] w (RetText (val l) w) := by
  rcases Nat.eq_zero_or_pos (val l) with h0 | h0
  · have e0 := Lib.hid (show (digs (val l)).length = 0 by rw [h0, digs_zero]; rfl)
    have e1 := Lib.hid (show strOfNums (decs (val l)) = ⟨#[48]⟩ by rw [h0]; rfl)
    go_enter Try.func17, Try.ntmps17
    go_wp2_with fail
    refine (rnorm_calls _ _ _ _ _ h (by omega)).mono ?_
    rintro e w1 ⟨A1, c1, rfl, hO, hB⟩
    rw [e0.out]
    go_wp2
    go_ret
    exact ⟨by rw [e1.out]; rfl, hB⟩
  · exact rtext_pos w A n c l h h0 hs

def RetRd (X : List Int) (p k : Int) (w : World) (e : Ending) (w' : World) : Prop := ∃ A c, e = .returned (.tuple #[.slice A X.length c, .int .i64 p, .int .i64 k]) ∧ Own w' w.heap.size A X.length c X ∧ Below w.heap.size w w'
theorem RetBad.rd {p k : Int} {w : World} {e : Ending} {w' : World} (h : RetBad p k w e w') : RetRd [] p k w e w' := ⟨none, 0, h.1, Own.nil _ _, h.2⟩
theorem RetRead.rd {N : Nat} {w : World} {e : Ending} {w' : World} (h : RetRead N w e w') : RetRd (digs N) 0 0 w e w' := h

theorem reads (s : ByteArray) (hm : s.size ≤ 9223372036854775807) : ∃ (X : List Int) (p k : Int), 0 ≤ k ∧ k ≤ 4 ∧ (∀ w, Calls Try.prog 14 #[.string s] w (RetRd X p k w)) ∧ (∀ w, Calls Try.prog 15 #[.string s] w (RetRd X p k w)) := by
  by_cases hl : 65536 < s.size
  · exact ⟨[], 0, 2, by omega, by omega, fun w => (read_long s w hl hm).mono fun _ _ h => RetBad.rd h, fun w => (rread_long s w hl hm).mono fun _ _ h => RetBad.rd h⟩
  · rcases Nat.eq_zero_or_pos s.size with h0 | h0
    · exact ⟨[], 0, 4, by omega, by omega, fun w => (read_empty s w h0).mono fun _ _ h => RetBad.rd h, fun w => (rread_empty s w h0).mono fun _ _ h => RetBad.rd h⟩
    · rcases first_bad s s.size with hg | ⟨i, hi, hb, hn⟩
      · refine ⟨digs (dv s s.size), 0, 0, by omega, by omega, fun w => (read_ok s w (by omega) h0 hg).mono fun _ _ h => RetRead.rd h, fun w => rread_scan s w (by omega) h0 s.size (Nat.le_refl _) hg _ (fun h => absurd h (by omega)) (fun _ w' A c hO hB => ⟨A, c, rfl, hO, hB⟩)⟩
      · refine ⟨[], i, 4, by omega, by omega, fun w => (read_bad s w (by omega) i hi hb hn).mono fun _ _ h => RetBad.rd h, fun w => rread_scan s w (by omega) h0 i (by omega) hn _ (fun _ => ⟨hb, fun w' hB => ⟨none, 0, rfl, Own.nil _ _, hB⟩⟩) (fun h => absurd h (by omega))⟩

theorem texts (A : Option Addr) (n c : Nat) (l : List Int) (hs : n ≤ 8796093022208) : ∃ T : ByteArray, (∀ w, Sl w A n c l → Calls Try.prog 16 #[.slice A n c] w fun e w' => e = .returned (.string T) ∧ Below w.heap.size w w') ∧ (∀ w, Sl w A n c l → Calls Try.prog 17 #[.slice A n c] w fun e w' => e = .returned (.string T) ∧ Below w.heap.size w w') :=
  ⟨strOfNums (decs (val l)), fun w h => (text_calls w A n c l h hs).mono fun _ _ h => h, fun w h => (rtext_calls w A n c l h hs).mono fun _ _ h => h⟩

set_option maxHeartbeats 2000000 in
theorem natTexts_law (w : World) (A : Option Addr) (n c : Nat) (la : List Int) (s : ByteArray) (ha : Sl w A n c la) (hs : n ≤ 8796093022208) (hm : s.size ≤ 9223372036854775807) :
    Calls Try.prog 4 #[.slice A n c, .string s] w (RetTrue w) := by
  obtain ⟨X, p, k, hk0, hk4, hr1, hr2⟩ := reads s hm
  replace hr1 := Lib.hid hr1
  replace hr2 := Lib.hid hr2
  have hw : IntKind.i64.wrap k = k := by apply IntWalk.i64_in <;> omega
  obtain ⟨T, ht1, ht2⟩ := texts A n c la hs
  replace ht1 := Lib.hid ht1
  replace ht2 := Lib.hid ht2
  go_enter Try.func4, Try.ntmps4
  go_wp2_with fail
  refine (hr1.out _).mono ?_
  rintro e w1 ⟨A1, c1, rfl, h1, hB1⟩
  go_wp2_with fail
  refine (hr2.out _).mono ?_
  rintro e w2 ⟨A2, c2, rfl, h2, hB2⟩
  have hBa := below_step hB1 hB2
  go_wp2_with fail
  refine (ht1.out _ (ha.below hBa)).mono ?_
  rintro e w3 ⟨rfl, hB3⟩
  have hBb := below_step hBa hB3
  go_wp2_with fail
  refine (ht2.out _ (ha.below hBb)).mono ?_
  rintro e w4 ⟨rfl, hB4⟩
  have hBc := below_step hBb hB4
  go_wp2_with fail
  refine (same_calls _ _ _ _ _ _ _ ((h1.below hB2).below hB3 |>.below hB4).sl ((h2.below hB3).below hB4).sl).mono ?_
  rintro e w5 ⟨rfl, hd5⟩
  have hBd := below_drawn hBc hd5
  go_wp2_with fail
  refine (awake_calls _).mono ?_
  rintro e w6 ⟨rfl, hB6⟩
  go_wp2
  go_ret
  exact ⟨rfl, below_step hBd hB6⟩
end Go.Proofs.Ytgjakbhfahehfaa
