/- The walk of the statement NatThere. -/
import Derived.Test.YtgjakbhfahehfaaTexts
import Derived.Test.YtgjakbhfahehfaaNum11
import Derived.Test.YtgjakbhfahehfaaShl
namespace Go.Proofs.Ytgjakbhfahehfaa
open Go.RowKit

theorem blen_shl (v m : Nat) (h : 0 < v) : blen (v * 2 ^ m) = blen v + m := by
  have := blen_add_pow (t := 0) (k := m) (Nat.pow_pos (by omega)) h
  rw [Nat.zero_add, Nat.mul_comm] at this
  rw [this]; omega

theorem text_read (v : Nat) (h : (strOfNums (decs v)).size ≤ 65536) (w : World) : Calls Try.prog 14 #[.string (strOfNums (decs v))] w (RetRd (digs v) 0 0 w) := by
  have h0 : 0 < (strOfNums (decs v)).size := by rw [strOfNums_size]; exact decs_pos v
  have h1 := read_ok (strOfNums (decs v)) w h h0 (fun j hj => good_decs v j hj)
  rw [read_decs] at h1
  exact h1.mono fun _ _ h => RetRead.rd h

set_option maxHeartbeats 2000000 in
theorem there_short_small (w : World) (A : Option Addr) (n c : Nat) (la : List Int) (m : Nat) (ha : Sl w A n c la) (hs : n ≤ 1048576) (hm : m ≤ 255) (T : ByteArray) (X : List Int) (p k : Int)
    (ht0 : ∀ w, Sl w A n c la → Calls Try.prog 16 #[.slice A n c] w fun e w' => e = .returned (.string T) ∧ Below w.heap.size w w')
    (hr0 : ∀ w, Calls Try.prog 14 #[.string T] w (RetRd X p k w)) (hX : X = digs (val la)) (hp : p = 0) (hk : k = 0) (hlen : T.size ≤ 65536) (hb : blen (val la) ≤ 1048320) :
    Calls Try.prog 6 #[.slice A n c, .int .u8 m] w (RetTrue w) := by
  have ht := Lib.hid ht0
  have hr := Lib.hid hr0
  clear ht0 hr0
  have hw : IntKind.i64.wrap (m : Int) = m := IntWalk.i64_in _ (by omega)
  subst hX hp hk
  have hdl : decide ((T.size : Int) ≤ 65536) = true := by simp; omega
  have hdb : decide ((1048320 : Int) < blen (val la)) = false := by simp; omega
  go_enter Try.func6, Try.ntmps6
  go_wp2_with fail
  refine (awake_calls _).mono ?_
  rintro e w1 ⟨rfl, hB1⟩
  go_wp2_with fail
  refine (ht.out _ (ha.below hB1)).mono ?_
  rintro e w2 ⟨rfl, hB2⟩
  have hBa := below_step hB1 hB2
  go_wp2_with fail
  refine (hr.out _).mono ?_
  rintro e w3 ⟨A3, c3, rfl, h3, hB3⟩
  have hBb := below_step hBa hB3
  go_wp2_with fail
  refine (ht.out _ (ha.below hBb)).mono ?_
  rintro e w4 ⟨rfl, hB4⟩
  have hBc := below_step hBb hB4
  go_wp2_with fail
  refine (norm_calls _ _ _ _ _ (ha.below hBc) (by omega)).mono ?_
  rintro e w5 ⟨A5, c5, rfl, h5, hB5⟩
  have hBd0 := below_step hBc hB5
  go_wp2_with fail
  refine (same_calls _ _ _ _ _ _ _ ((h3.below hB4).below hB5).sl h5.sl).mono ?_
  rintro e w6 ⟨rfl, hd6⟩
  have hBd := below_drawn hBd0 hd6
  have hshl := Lib.hid (Shl_calls _ A n c la m (ha.below hBd) (fun _ => by omega) (by omega) (by omega))
  go_wp2_with fail
  refine hshl.out.mono ?_
  rintro e w7 ⟨A7, c7, rfl, h7, hB7⟩
  have hBe := below_step hBd hB7
  go_wp2_with fail
  refine (bits_calls _ _ _ _ _ (ha.below hBe)).mono ?_
  rintro e w' ⟨rfl, rfl⟩
  have hshr := Shr_calls w7 _ _ _ _ m h7.sl (by omega)
  rw [val_digs, Nat.mul_div_cancel _ (Nat.pow_pos (by omega))] at hshr
  replace hshr := Lib.hid hshr
  go_wp2_with fail
  refine hshr.out.mono ?_
  rintro e w8 ⟨A8, c8, rfl, h8, hB8⟩
  have hBf := below_step hBe hB8
  go_wp2_with fail
  refine (norm_calls _ _ _ _ _ (ha.below hBf) (by omega)).mono ?_
  rintro e w9 ⟨A9, c9, rfl, h9, hB9⟩
  have hBg := below_step hBf hB9
  go_wp2_with fail
  refine (same_calls _ _ _ _ _ _ _ (h8.below hB9).sl h9.sl).mono ?_
  rintro e w10 ⟨rfl, hd10⟩
  have hBh := below_drawn hBg hd10
  go_wp2_with fail
  refine (bits_calls _ _ _ _ _ (ha.below hBh)).mono ?_
  rintro e w' ⟨rfl, rfl⟩
  by_cases h0 : val la = 0
  · have e1 := Lib.hid (show blen (val la) = 0 by rw [h0]; rfl)
    clear h0 hb hdb
    rw [e1.out]
    go_wp2
    go_ret
    exact ⟨rfl, hBh⟩
  · have hbp := blen_pos (Nat.pos_of_ne_zero h0)
    have hne : ((blen (val la) : Int) == 0) = false := beq_eq_false_iff_ne.2 (by omega)
    have h7b := bits_calls w10 _ _ _ _ (((h7.below hB8).below hB9).drawn hd10).sl
    rw [val_digs, blen_shl _ _ (Nat.pos_of_ne_zero h0)] at h7b
    replace h7b := Lib.hid h7b
    clear h0
    go_wp2_with fail
    refine h7b.out.mono ?_
    rintro e w' ⟨rfl, rfl⟩
    have hcast : ((blen (val la) + m : Nat) : Int) = (blen (val la) : Int) + m := by omega
    rw [hcast]
    go_wp2_with fail
    refine (bits_calls _ _ _ _ _ (ha.below hBh)).mono ?_
    rintro e w' ⟨rfl, rfl⟩
    go_wp2
    go_ret
    exact ⟨rfl, hBh⟩

set_option maxHeartbeats 2000000 in
theorem there_short_great (w : World) (A : Option Addr) (n c : Nat) (la : List Int) (m : Nat) (ha : Sl w A n c la) (hs : n ≤ 1048576) (hm : m ≤ 255) (T : ByteArray) (X : List Int) (p k : Int)
    (ht0 : ∀ w, Sl w A n c la → Calls Try.prog 16 #[.slice A n c] w fun e w' => e = .returned (.string T) ∧ Below w.heap.size w w')
    (hr0 : ∀ w, Calls Try.prog 14 #[.string T] w (RetRd X p k w)) (hX : X = digs (val la)) (hp : p = 0) (hk : k = 0) (hlen : T.size ≤ 65536) (hb : 1048320 < blen (val la)) :
    Calls Try.prog 6 #[.slice A n c, .int .u8 m] w (RetTrue w) := by
  have ht := Lib.hid ht0
  have hr := Lib.hid hr0
  clear ht0 hr0
  have hw : IntKind.i64.wrap (m : Int) = m := IntWalk.i64_in _ (by omega)
  subst hX hp hk
  have hdl : decide ((T.size : Int) ≤ 65536) = true := by simp; omega
  have hdb : decide ((1048320 : Int) < blen (val la)) = true := by simp; omega
  go_enter Try.func6, Try.ntmps6
  go_wp2_with fail
  refine (awake_calls _).mono ?_
  rintro e w1 ⟨rfl, hB1⟩
  go_wp2_with fail
  refine (ht.out _ (ha.below hB1)).mono ?_
  rintro e w2 ⟨rfl, hB2⟩
  have hBa := below_step hB1 hB2
  go_wp2_with fail
  refine (hr.out _).mono ?_
  rintro e w3 ⟨A3, c3, rfl, h3, hB3⟩
  have hBb := below_step hBa hB3
  go_wp2_with fail
  refine (ht.out _ (ha.below hBb)).mono ?_
  rintro e w4 ⟨rfl, hB4⟩
  have hBc := below_step hBb hB4
  go_wp2_with fail
  refine (norm_calls _ _ _ _ _ (ha.below hBc) (by omega)).mono ?_
  rintro e w5 ⟨A5, c5, rfl, h5, hB5⟩
  have hBd0 := below_step hBc hB5
  go_wp2_with fail
  refine (same_calls _ _ _ _ _ _ _ ((h3.below hB4).below hB5).sl h5.sl).mono ?_
  rintro e w6 ⟨rfl, hd6⟩
  have hBd := below_drawn hBd0 hd6
  have hshl := Lib.hid (Shl_any _ A n c la m (ha.below hBd) hm (by omega))
  go_wp2_with fail
  refine hshl.out.mono ?_
  rintro e w7 ⟨A7, n7, c7, k7, rfl, hB7⟩
  have hBe := below_step hBd hB7
  go_wp2_with fail
  refine (bits_calls _ _ _ _ _ (ha.below hBe)).mono ?_
  rintro e w' ⟨rfl, rfl⟩
  go_wp2
  go_ret
  exact ⟨rfl, hBe⟩

set_option maxHeartbeats 2000000 in
theorem there_long_small (w : World) (A : Option Addr) (n c : Nat) (la : List Int) (m : Nat) (ha : Sl w A n c la) (hs : n ≤ 1048576) (hm : m ≤ 255) (T : ByteArray) (X : List Int) (p k : Int)
    (ht0 : ∀ w, Sl w A n c la → Calls Try.prog 16 #[.slice A n c] w fun e w' => e = .returned (.string T) ∧ Below w.heap.size w w')
    (hr0 : ∀ w, Calls Try.prog 14 #[.string T] w (RetRd X p k w)) (hlen : 65536 < T.size) (hb : blen (val la) ≤ 1048320) :
    Calls Try.prog 6 #[.slice A n c, .int .u8 m] w (RetTrue w) := by
  have ht := Lib.hid ht0
  have hr := Lib.hid hr0
  clear ht0 hr0
  have hw : IntKind.i64.wrap (m : Int) = m := IntWalk.i64_in _ (by omega)
  have hdl : decide ((T.size : Int) ≤ 65536) = false := by simp; omega
  have hdb : decide ((1048320 : Int) < blen (val la)) = false := by simp; omega
  go_enter Try.func6, Try.ntmps6
  go_wp2_with fail
  refine (awake_calls _).mono ?_
  rintro e w1 ⟨rfl, hB1⟩
  go_wp2_with fail
  refine (ht.out _ (ha.below hB1)).mono ?_
  rintro e w2 ⟨rfl, hB2⟩
  have hBa := below_step hB1 hB2
  go_wp2_with fail
  refine (hr.out _).mono ?_
  rintro e w3 ⟨A3, c3, rfl, h3, hB3⟩
  have hBb := below_step hBa hB3
  go_wp2_with fail
  refine (ht.out _ (ha.below hBb)).mono ?_
  rintro e w4 ⟨rfl, hB4⟩
  have hBc := below_step hBb hB4
  have hBd := hBc
  have hshl := Lib.hid (Shl_calls _ A n c la m (ha.below hBd) (fun _ => by omega) (by omega) (by omega))
  go_wp2_with fail
  refine hshl.out.mono ?_
  rintro e w7 ⟨A7, c7, rfl, h7, hB7⟩
  have hBe := below_step hBd hB7
  go_wp2_with fail
  refine (bits_calls _ _ _ _ _ (ha.below hBe)).mono ?_
  rintro e w' ⟨rfl, rfl⟩
  have hshr := Shr_calls w7 _ _ _ _ m h7.sl (by omega)
  rw [val_digs, Nat.mul_div_cancel _ (Nat.pow_pos (by omega))] at hshr
  replace hshr := Lib.hid hshr
  go_wp2_with fail
  refine hshr.out.mono ?_
  rintro e w8 ⟨A8, c8, rfl, h8, hB8⟩
  have hBf := below_step hBe hB8
  go_wp2_with fail
  refine (norm_calls _ _ _ _ _ (ha.below hBf) (by omega)).mono ?_
  rintro e w9 ⟨A9, c9, rfl, h9, hB9⟩
  have hBg := below_step hBf hB9
  go_wp2_with fail
  refine (same_calls _ _ _ _ _ _ _ (h8.below hB9).sl h9.sl).mono ?_
  rintro e w10 ⟨rfl, hd10⟩
  have hBh := below_drawn hBg hd10
  go_wp2_with fail
  refine (bits_calls _ _ _ _ _ (ha.below hBh)).mono ?_
  rintro e w' ⟨rfl, rfl⟩
  by_cases h0 : val la = 0
  · have e1 := Lib.hid (show blen (val la) = 0 by rw [h0]; rfl)
    clear h0 hb hdb
    rw [e1.out]
    go_wp2
    go_ret
    exact ⟨rfl, hBh⟩
  · have hbp := blen_pos (Nat.pos_of_ne_zero h0)
    have hne : ((blen (val la) : Int) == 0) = false := beq_eq_false_iff_ne.2 (by omega)
    have h7b := bits_calls w10 _ _ _ _ (((h7.below hB8).below hB9).drawn hd10).sl
    rw [val_digs, blen_shl _ _ (Nat.pos_of_ne_zero h0)] at h7b
    replace h7b := Lib.hid h7b
    clear h0
    go_wp2_with fail
    refine h7b.out.mono ?_
    rintro e w' ⟨rfl, rfl⟩
    have hcast : ((blen (val la) + m : Nat) : Int) = (blen (val la) : Int) + m := by omega
    rw [hcast]
    go_wp2_with fail
    refine (bits_calls _ _ _ _ _ (ha.below hBh)).mono ?_
    rintro e w' ⟨rfl, rfl⟩
    go_wp2
    go_ret
    exact ⟨rfl, hBh⟩

set_option maxHeartbeats 2000000 in
theorem there_long_great (w : World) (A : Option Addr) (n c : Nat) (la : List Int) (m : Nat) (ha : Sl w A n c la) (hs : n ≤ 1048576) (hm : m ≤ 255) (T : ByteArray) (X : List Int) (p k : Int)
    (ht0 : ∀ w, Sl w A n c la → Calls Try.prog 16 #[.slice A n c] w fun e w' => e = .returned (.string T) ∧ Below w.heap.size w w')
    (hr0 : ∀ w, Calls Try.prog 14 #[.string T] w (RetRd X p k w)) (hlen : 65536 < T.size) (hb : 1048320 < blen (val la)) :
    Calls Try.prog 6 #[.slice A n c, .int .u8 m] w (RetTrue w) := by
  have ht := Lib.hid ht0
  have hr := Lib.hid hr0
  clear ht0 hr0
  have hw : IntKind.i64.wrap (m : Int) = m := IntWalk.i64_in _ (by omega)
  have hdl : decide ((T.size : Int) ≤ 65536) = false := by simp; omega
  have hdb : decide ((1048320 : Int) < blen (val la)) = true := by simp; omega
  go_enter Try.func6, Try.ntmps6
  go_wp2_with fail
  refine (awake_calls _).mono ?_
  rintro e w1 ⟨rfl, hB1⟩
  go_wp2_with fail
  refine (ht.out _ (ha.below hB1)).mono ?_
  rintro e w2 ⟨rfl, hB2⟩
  have hBa := below_step hB1 hB2
  go_wp2_with fail
  refine (hr.out _).mono ?_
  rintro e w3 ⟨A3, c3, rfl, h3, hB3⟩
  have hBb := below_step hBa hB3
  go_wp2_with fail
  refine (ht.out _ (ha.below hBb)).mono ?_
  rintro e w4 ⟨rfl, hB4⟩
  have hBc := below_step hBb hB4
  have hBd := hBc
  have hshl := Lib.hid (Shl_any _ A n c la m (ha.below hBd) hm (by omega))
  go_wp2_with fail
  refine hshl.out.mono ?_
  rintro e w7 ⟨A7, n7, c7, k7, rfl, hB7⟩
  have hBe := below_step hBd hB7
  go_wp2_with fail
  refine (bits_calls _ _ _ _ _ (ha.below hBe)).mono ?_
  rintro e w' ⟨rfl, rfl⟩
  go_wp2
  go_ret
  exact ⟨rfl, hBe⟩

theorem natThere_law (w : World) (A : Option Addr) (n c : Nat) (la : List Int) (x : Int) (ha : Sl w A n c la) (hs : n ≤ 1048576) (hx : (Lit.int .u8 x).wf = true) :
    Calls Try.prog 6 #[.slice A n c, .int .u8 x] w (RetTrue w) := by
  have hx2 : 0 ≤ x ∧ x ≤ 255 := by simpa [Lit.wf, IntKind.min, IntKind.max, IntKind.signed, IntKind.bits] using hx
  obtain ⟨m, rfl⟩ : ∃ m : Nat, x = m := ⟨x.toNat, by omega⟩
  have ht : ∀ w, Sl w A n c la → Calls Try.prog 16 #[.slice A n c] w fun e w' => e = .returned (.string (strOfNums (decs (val la)))) ∧ Below w.heap.size w w' := fun w h => (text_calls w A n c la h (by omega)).mono fun _ _ h => h
  have hsz : (strOfNums (decs (val la))).size ≤ 9223372036854775807 := by
    have h1 := decR_len_val ha.lim
    have h2 := ha.len
    rw [strOfNums_size]
    unfold decs
    split
    · simp
    · rw [List.length_reverse]; omega
  by_cases hl : (strOfNums (decs (val la))).size ≤ 65536
  · have hr := text_read (val la) hl
    by_cases hb : blen (val la) ≤ 1048320
    · exact there_short_small w A n c la m ha hs (by omega) _ _ 0 0 ht hr rfl rfl rfl hl hb
    · exact there_short_great w A n c la m ha hs (by omega) _ _ 0 0 ht hr rfl rfl rfl hl (by omega)
  · obtain ⟨X, p, k, _, _, hr, _⟩ := reads (strOfNums (decs (val la))) hsz
    by_cases hb : blen (val la) ≤ 1048320
    · exact there_long_small w A n c la m ha hs (by omega) _ _ p k ht hr (by omega) hb
    · exact there_long_great w A n c la m ha hs (by omega) _ _ p k ht hr (by omega) (by omega)
end Go.Proofs.Ytgjakbhfahehfaa
