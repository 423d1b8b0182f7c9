/- nat.Norm, nat.Cmp -/
import Derived.Test.YtkidgeeedigkhaaTrim
namespace Go.Proofs.Ytkidgeeedigkhaa
open Go.RowKit

set_option maxHeartbeats 400000 in
theorem norm_calls (w : World) (A : Option Addr) (n c : Nat) (l : List Int) (h : Sl w A n c l) (hs : n ≤ 35184372088832) :
    Calls Try.prog 89 #[.slice A n c] w (RetNum (val l) w) := by
  have hlen := h.len
  have hdl := digs_val_len h.lim
  go_enter Try.func89, Try.ntmps89
  go_wp2_with (first | (go_at_call 82; refine (trim_calls _ _ _ _ _ h).mono ?_; rintro e w' ⟨rfl, rfl⟩) | (at_builtin; refine append_u32 w rfl _ _ rfl w.heap.size none 0 0 [] A (digs (val l)).length c (digs (val l)) rfl rfl (Own.nil w _) h.strip ?_ (Nat.le_refl _) ?_; omega; intro A1 c1 w1 ho hg _))
  go_ret
  rw [List.nil_append] at ho
  rw [Nat.zero_add] at ho
  exact ⟨_, _, rfl, ho, (Below.refl _ _).grown hg (Nat.le_refl _) (by simp [Value.ownBlock])⟩

set_option maxHeartbeats 1000000 in
theorem cmp_calls (w : World) (A : Option Addr) (n c : Nat) (la : List Int) (A' : Option Addr) (n' c' : Nat) (lb : List Int) (ha : Sl w A n c la) (hb : Sl w A' n' c' lb) :
    Calls Try.prog 55 #[.slice A n c, .slice A' n' c'] w (RetQ (.int .i64 (cmpN (val la) (val lb))) w) := by
  have hX := ha.strip
  have hY := hb.strip
  have eX := val_digs (val la)
  have eY := val_digs (val lb)
  have hlX := hX.small
  have hlY := hY.small
  have hgt := @lt_of_digs_len (val la) (val lb)
  have hgt' := @lt_of_digs_len (val lb) (val la)
  go_enter Try.func55, Try.ntmps55
  go_wp2_with fail
  refine (trim_calls _ _ _ _ _ ha).mono ?_
  rintro e w' ⟨rfl, rfl⟩
  go_wp2_with fail
  refine (trim_calls _ _ _ _ _ hb).mono ?_
  rintro e w' ⟨rfl, rfl⟩
  clear ha hb
  generalize val la = a at *
  generalize val lb = b at *
  generalize digs a = X at *
  generalize digs b = Y at *
  subst eX eY
  by_cases hlt : X.length < Y.length
  · have e1 := Lib.hid (cmpN_lt (hgt hlt))
    clear hgt hgt'
    go_wp2
    go_ret
    exact ⟨by rw [e1.out]; rfl, 0, rfl⟩
  · by_cases hlt2 : Y.length < X.length
    · have e1 := Lib.hid (cmpN_gt (hgt' hlt2))
      clear hgt hgt'
      go_wp2
      go_ret
      exact ⟨by rw [e1.out]; rfl, 0, rfl⟩
    · clear hgt hgt'
      have hl : X.length = Y.length := by omega
      have HL := Lib.hid hl
      clear hlt hlt2
      rw [← hl] at hY hlY ⊢
      clear hl
      go_wp2
      go_loopw [5] (fun iv wr => ∃ j : Nat, j ≤ X.length ∧ iv = .int .i64 (j - 1) ∧ Hid (val (X.drop j) = val (Y.drop j)) ∧ Hid (∃ k, wr = w.drewN k)) (fun iv _ => (intOf iv + 1).toNat)
      case atStart => exact ⟨X.length, Nat.le_refl _, rfl, by unfold Hid; rw [List.drop_length, HL.out, List.drop_length], 0, rfl⟩
      case round =>
        obtain ⟨j, hj, rfl, hv, hd⟩ := hrel
        by_cases h0 : j = 0
        · subst h0
          have e1 := Lib.hid (show cmpN (val X) (val Y) = 0 by have := hv.out; simp only [List.drop_zero] at this; rw [this]; exact cmpN_eq _)
          go_wp2
          go_ret
          exact ⟨by rw [e1.out]; rfl, hd.out⟩
        · obtain ⟨i, rfl⟩ : ∃ i, j = i + 1 := ⟨j - 1, by omega⟩
          clear h0
          obtain ⟨b, off, rfl, hcX⟩ := (hX.drawn hd.out).at_ (i := i) (by omega)
          obtain ⟨b', off', rfl, hcY⟩ := (hY.drawn hd.out).at_ (i := i) (by omega)
          have e0 : ((i + 1 : Nat) : Int) - 1 = i := by omega
          rw [e0]
          clear e0
          have hlt1 := Lib.hid (val_lt_of_top hX.lim i (by omega) (by have := HL.out; omega) hY.lim hv.out)
          have hlt2 := Lib.hid (val_lt_of_top hY.lim i (by have := HL.out; omega) (by omega) hX.lim hv.out.symm)
          have hd1 := val_drop_eq X i (by omega)
          have hd2 := val_drop_eq Y i (by have := HL.out; omega)
          have heq := Lib.hid (show X.getD i 0 = Y.getD i 0 → val (X.drop i) = val (Y.drop i) by intro e; rw [hd1, hd2, e, hv.out])
          clear hd1 hd2
          generalize X.getD i 0 = x at *
          generalize Y.getD i 0 = y at *
          by_cases hxy : x = y
          · subst hxy
            have he := Lib.hid (heq.out rfl)
            clear heq hlt1 hlt2
            go_wp2
            go_quiet (fail)
            go_wp2
            go_roundw
            case rel => exact ⟨i, by omega, rfl, he, drawn_step hd.out _⟩
            case measure => simp [intOf] <;> omega
          · have hne : (x == y) = false := by simpa using hxy
            have hne' : (x != y) = true := by simpa using hxy
            clear heq
            by_cases hlt : x < y
            · have e1 := Lib.hid (cmpN_lt (hlt1.out hlt))
              clear hlt1 hlt2 hxy
              go_wp2
              go_quiet (fail)
              go_wp2
              go_quiet (fail)
              go_wp2
              go_ret
              exact ⟨by rw [e1.out]; rfl, drawn_step (drawn_step hd.out _) _⟩
            · have e1 := Lib.hid (cmpN_gt (hlt2.out (by omega)))
              clear hlt1 hlt2 hxy
              go_wp2
              go_quiet (fail)
              go_wp2
              go_quiet (fail)
              go_wp2
              go_ret
              exact ⟨by rw [e1.out]; rfl, drawn_step (drawn_step hd.out _) _⟩
end Go.Proofs.Ytkidgeeedigkhaa
