/- The reference's Read. -/
import Derived.Test.YtgjakbhfahehfaaRead2
import Derived.Test.YtgjakbhfahehfaaRGcd
namespace Go.Proofs.Ytgjakbhfahehfaa
open Go.RowKit

theorem rread_long (s : ByteArray) (w : World) (h : 65536 < s.size) (hm : s.size ≤ 9223372036854775807) : Calls Try.prog 15 #[.string s] w (RetBad 0 2 w) := by
  go_enter Try.func15, Try.ntmps15
  go_wp2
  go_ret3
  exact ⟨rfl, Below.refl _ _⟩
theorem rread_empty (s : ByteArray) (w : World) (h : s.size = 0) : Calls Try.prog 15 #[.string s] w (RetBad 0 4 w) := by
  obtain rfl : s = ⟨#[]⟩ := by
    apply ByteArray.ext
    exact Array.eq_empty_of_size_eq_zero h
  clear h
  go_enter Try.func15, Try.ntmps15
  go_wp2
  go_ret3
  exact ⟨rfl, Below.refl _ _⟩

theorem Row.lit1' (w : World) (g : Nat) {x : Int} (hg : g = w.heap.size) (h0 : 0 ≤ x) (h1 : x < 4294967296) : Own (w.alloc (.cells #[.int .u32 x] 31)) g (some ⟨g, 0, none⟩) 1 1 [x] := by
  subst hg
  exact (Row.lit1 w h0 h1).toOwn

theorem mul10 (w : World) (A : Option Addr) (n c N g : Nat) (h : Sl w A n c (digs N)) (hL : Sl w (some ⟨g, 0, none⟩) 1 1 [10]) (hs : n ≤ 70000) :
    Calls Try.prog 39 #[.slice A n c, .slice (some ⟨g, 0, none⟩) 1 1] w (RetNum (N * 10) w) := by
  have := rmul_calls w A n c (digs N) (some ⟨g, 0, none⟩) 1 1 [10] h hL (by omega)
  rw [val_digs, val_one] at this
  exact this
theorem addD (w : World) (A : Option Addr) (n c N g : Nat) (x : Int) (h : Sl w A n c (digs N)) (hL : Sl w (some ⟨g, 0, none⟩) 1 1 [x]) (hs : n ≤ 70000) :
    Calls Try.prog 45 #[.slice A n c, .slice (some ⟨g, 0, none⟩) 1 1] w (RetNum (N + x.toNat) w) := by
  have := radd_calls w A n c (digs N) (some ⟨g, 0, none⟩) 1 1 [x] h hL (by omega) (by omega)
  rw [val_digs, val_one] at this
  exact this
theorem pow_len10 {N j : Nat} (h : N < 10 ^ j) : (digs N).length ≤ j := digs_len_le (Nat.lt_of_lt_of_le h (Nat.pow_le_pow_left (by omega) j))
theorem len_mul10 {N k : Nat} (h : (digs N).length ≤ k) : (digs (N * 10)).length ≤ k + 1 := digs_len_le (by
  have h1 := digs_len_lt_iff.1 h
  rw [Nat.pow_succ]
  omega)

set_option maxHeartbeats 2000000 in
theorem rread_scan (s : ByteArray) (w : World) (hm : s.size ≤ 65536) (h0 : 0 < s.size) (m : Nat) (hmle : m ≤ s.size) (hgood : ∀ j, j < m → ¬ BadAt s j) (Q : Ending → World → Prop)
    (hbad : m < s.size → BadAt s m ∧ ∀ w', Below w.heap.size w w' → Q (.returned (.tuple #[.slice none 0 0, .int .i64 m, .int .i64 4])) w')
    (hok : m = s.size → ∀ w' A c, Own w' w.heap.size A (digs (dv s m)).length c (digs (dv s m)) → Below w.heap.size w w' → Q (.returned (.tuple #[.slice A (digs (dv s m)).length c, .int .i64 0, .int .i64 0])) w') :
    Calls Try.prog 15 #[.string s] w Q := by
  have HG := Lib.hid hgood
  have HBad := Lib.hid hbad
  have HOk := Lib.hid hok
  have HD := Lib.hid (show ∀ j, j < m → 48 ≤ byteN s j ∧ byteN s j ≤ 57 from fun j hj => by have := hgood j hj; unfold BadAt at this; omega)
  have HL := Lib.hid (show ∀ j, j ≤ m → (digs (dv s j)).length ≤ 65536 from fun j hj => Nat.le_trans (pow_len10 (dv_lt s j (fun i hi => (HD.out i (by omega)).2))) (by omega))
  clear hgood hbad hok
  have hne1 : ((s.size : Int) == 0) = false := beq_eq_false_iff_ne.2 (by omega)
  have hdd : decide ((65536 : Int) < s.size) = false := by simp; omega
  go_enter Try.func15, Try.ntmps15
  go_wp2
  go_loopw [5, 6] (fun ov iv wr => ∃ (k : Nat) (A : Option Addr) (c : Nat), k ≤ m ∧ iv = .int .i64 k ∧ ov = .slice A (digs (dv s k)).length c ∧ Own wr w.heap.size A (digs (dv s k)).length c (digs (dv s k)) ∧ Below w.heap.size w wr) (fun _ iv _ => s.size - (intOf iv).toNat)
  case atStart => exact ⟨0, none, 0, Nat.zero_le _, rfl, by rw [dv, digs_zero]; rfl, by rw [dv, digs_zero]; exact Own.nil _ _, Below.refl _ _⟩
  case round =>
    obtain ⟨k, A, c, hk, rfl, rfl, hO, hB⟩ := hrel
    by_cases hlt : k < m
    · have hp : k < s.size := by omega
      have hb0 := byteN_at hp
      have hd := HD.out k hlt
      have hg := HG.out k hlt
      unfold BadAt at hg
      rw [hb0] at hd
      have hln := HL.out k (by omega)
      have hnv := Lib.hid (show dv s k * 10 + ((s[k]'hp).toNat - 48) = dv s (k + 1) by rw [dv, hb0]; omega)
      have hlm := len_mul10 (HL.out k (by omega))
      have hsm := hO.small
      have hix : 0 ≤ ((s[k]'hp).toNat : Int) - 48 := by omega
      have hix2 : ((s[k]'hp).toNat : Int) - 48 < 4294967296 := by omega
      by_cases hp1 : k = 1
      · have h3a : ((k : Int) == 1) = true := beq_iff_eq.2 (by omega)
        have h3 : (((s[0]'h0).toNat : Int) == 48) = false := beq_eq_false_iff_ne.2 (by have := byteN_at h0; omega)
        clear hg hb0 hp1
        go_wp2
        generalize hde : ((s[k]'hp).toNat : Int) - 48 = d at *
        have Hde := Lib.hid hde
        have hw1 : IntKind.u8.wrap (((s[k]'hp).toNat : Int) - 48) = d := by rw [hde]; exact IntWalk.u8_in _ (by omega)
        have hw2 : IntKind.u32.wrap d = d := IntWalk.u32_in _ (by omega)
        clear hde
        go_region_held3 (fun _ => True) (trivial) (first
          | (go_at_call 39
             refine (mul10 _ A _ c (dv s k) _ (by first | exact (hO.sl.alloc _).drew | exact ((hO.sl.alloc _).alloc _).drew) (by first | exact (Row.lit1' wr _ rfl (by omega) (by omega)).sl.drew | exact (Row.lit1' (wr.alloc _) _ (by simp) (by omega) (by omega)).sl.drew | exact ((Row.lit1' wr _ rfl (by omega) (by omega)).alloc _).sl.drew) (by omega)).mono ?_
             rintro e w8 ⟨A8, c8, rfl, hO8, hB8⟩)
          | (go_at_call 45
             refine (addD _ A8 _ c8 (dv s k * 10) _ d (by first | exact hO8.sl | exact (hO8.alloc _).sl) (by first | exact (Row.lit1' w8 _ rfl hix hix2).sl | exact ((Row.lit1' wr _ rfl hix hix2).alloc _).sl.drew.below hB8 | exact (Row.lit1' (wr.alloc _) _ (by simp) hix hix2).sl.drew.below hB8) (by omega)).mono ?_
             rintro e w9 ⟨A9, c9, rfl, hO9, hB9⟩))
        all_goals
          have hBx : Below w.heap.size w w9 := by
            first
            | exact below_step (below_step (below_drawn (hB.alloc hB.size _) ⟨1, rfl⟩) hB8) hB9
            | exact below_step (below_step (below_drawn ((hB.alloc hB.size _).alloc (by have := hB.size; simp; omega) _) ⟨1, rfl⟩) hB8) hB9
            | exact below_step ((below_step (below_drawn (hB.alloc hB.size _) ⟨1, rfl⟩) hB8).alloc (below_step (below_drawn (hB.alloc hB.size _) ⟨1, rfl⟩) hB8).size _) hB9
          have hfin := Lib.hid (show dv s k * 10 + d.toNat = dv s (k + 1) by rw [← hnv.out]; have := Hde.out; omega)
          rw [hfin.out] at hO9 ⊢
          go_wp2
          go_roundw
          case rel => exact ⟨k + 1, A9, c9, by omega, by go_num, rfl, hO9.base (by have h1 := hB.size; have h2 := hB8.size; simp at h2 ⊢; omega), hBx⟩
          case measure => simp [intOf] <;> omega
      · have h3 : ((k : Int) == 1) = false := beq_eq_false_iff_ne.2 (by omega)
        clear hg hb0
        go_wp2
        generalize hde : ((s[k]'hp).toNat : Int) - 48 = d at *
        have Hde := Lib.hid hde
        have hw1 : IntKind.u8.wrap (((s[k]'hp).toNat : Int) - 48) = d := by rw [hde]; exact IntWalk.u8_in _ (by omega)
        have hw2 : IntKind.u32.wrap d = d := IntWalk.u32_in _ (by omega)
        clear hde
        go_region_held3 (fun _ => True) (trivial) (first
          | (go_at_call 39
             refine (mul10 _ A _ c (dv s k) _ (by first | exact (hO.sl.alloc _).drew | exact ((hO.sl.alloc _).alloc _).drew) (by first | exact (Row.lit1' wr _ rfl (by omega) (by omega)).sl.drew | exact (Row.lit1' (wr.alloc _) _ (by simp) (by omega) (by omega)).sl.drew | exact ((Row.lit1' wr _ rfl (by omega) (by omega)).alloc _).sl.drew) (by omega)).mono ?_
             rintro e w8 ⟨A8, c8, rfl, hO8, hB8⟩)
          | (go_at_call 45
             refine (addD _ A8 _ c8 (dv s k * 10) _ d (by first | exact hO8.sl | exact (hO8.alloc _).sl) (by first | exact (Row.lit1' w8 _ rfl hix hix2).sl | exact ((Row.lit1' wr _ rfl hix hix2).alloc _).sl.drew.below hB8 | exact (Row.lit1' (wr.alloc _) _ (by simp) hix hix2).sl.drew.below hB8) (by omega)).mono ?_
             rintro e w9 ⟨A9, c9, rfl, hO9, hB9⟩))
        all_goals
          have hBx : Below w.heap.size w w9 := by
            first
            | exact below_step (below_step (below_drawn (hB.alloc hB.size _) ⟨1, rfl⟩) hB8) hB9
            | exact below_step (below_step (below_drawn ((hB.alloc hB.size _).alloc (by have := hB.size; simp; omega) _) ⟨1, rfl⟩) hB8) hB9
            | exact below_step ((below_step (below_drawn (hB.alloc hB.size _) ⟨1, rfl⟩) hB8).alloc (below_step (below_drawn (hB.alloc hB.size _) ⟨1, rfl⟩) hB8).size _) hB9
          have hfin := Lib.hid (show dv s k * 10 + d.toNat = dv s (k + 1) by rw [← hnv.out]; have := Hde.out; omega)
          rw [hfin.out] at hO9 ⊢
          go_wp2
          go_roundw
          case rel => exact ⟨k + 1, A9, c9, by omega, by go_num, rfl, hO9.base (by have h1 := hB.size; have h2 := hB8.size; simp at h2 ⊢; omega), hBx⟩
          case measure => simp [intOf] <;> omega
    · obtain rfl : k = m := by omega
      by_cases hms : k < s.size
      · obtain ⟨hb, hq⟩ := HBad.out hms
        have hQ := Lib.hid (hq wr hB)
        unfold BadAt at hb
        rw [byteN_at hms] at hb
        clear hq
        by_cases h1 : (s[k]'hms).toNat < 48
        · clear hb
          go_wp2
          go_ret3
          exact hQ.out
        · by_cases h2 : 57 < (s[k]'hms).toNat
          · clear hb
            go_wp2
            go_ret3
            exact hQ.out
          · have h3 : k = 1 ∧ byteN s 0 = 48 := by omega
            obtain ⟨rfl, h4⟩ := h3
            rw [byteN_at h0] at h4
            have h5 : (((s[0]'h0).toNat : Int) == 48) = true := by rw [h4]; rfl
            clear hb h4
            go_wp2
            go_ret3
            exact hQ.out
      · have hks : k = s.size := by omega
        have hQ := Lib.hid (HOk.out hks wr A c hO hB)
        have hks2 : ¬ (k : Int) < s.size := by omega
        clear hks
        go_wp2
        go_ret3
        exact hQ.out
end Go.Proofs.Ytgjakbhfahehfaa
