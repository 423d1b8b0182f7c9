/- zint.Sign, zint.Of, zint.Text, law02.alive -/
import Derived.Test.YtkidgeeedigkhaaZEq
import Derived.Test.YtkidgeeedigkhaaText
namespace Go.Proofs.Ytkidgeeedigkhaa
open Go.RowKit

theorem sign_zof (neg : Bool) (N : Nat) : (zof neg N).sign = if N = 0 then 0 else if neg then -1 else 1 := by
  rcases Nat.eq_zero_or_pos N with h | h
  · subst h; cases neg <;> rfl
  · have hN : ¬ N = 0 := by omega
    rw [if_neg hN]
    cases neg
    · exact Int.sign_eq_one_of_pos (show (0 : Int) < (N : Int) by omega)
    · exact Int.sign_eq_neg_one_of_neg (show -(N : Int) < 0 by omega)

set_option maxHeartbeats 1000000 in
set_option maxRecDepth 8000 in
theorem sign_calls (w : World) (neg : Bool) (A : Option Addr) (n c : Nat) (l : List Int) (h : Sl w A n c l) :
    Calls Try.prog 39 #[.agg #[.bool neg, .slice A n c]] w fun e w' => e = .returned (.int .i64 (zof neg (val l)).sign) ∧ Below w.heap.size w w' := by
  have hs := Lib.hid (sign_zof neg (val l))
  have hB0 : Below w.heap.size w (w.alloc (.cells #[.bool neg, .slice A n c] 24)) := (Below.refl _ _).alloc (Nat.le_refl _) _
  rcases Nat.eq_zero_or_pos (val l) with h0 | h0
  · have e1 := Lib.hid (show blen (val l) = 0 by rw [h0]; rfl)
    have e2 := Lib.hid (show (zof neg (val l)).sign = 0 by rw [hs.out, if_pos h0])
    go_enter Try.func39, Try.ntmps39
    go_wp2_with fail
    refine (bits_calls _ _ _ _ _ (h.alloc _)).mono ?_
    rintro e w' ⟨rfl, rfl⟩
    rw [e1.out]
    go_wp2
    go_ret
    exact ⟨by rw [e2.out]; rfl, hB0⟩
  · have hb := blen_pos h0
    have hne : ((blen (val l) : Int) == 0) = false := beq_eq_false_iff_ne.2 (by omega)
    have e2 := hs.out
    rw [if_neg (by omega)] at e2
    replace e2 := Lib.hid e2
    go_enter Try.func39, Try.ntmps39
    go_wp2_with fail
    refine (bits_calls _ _ _ _ _ (h.alloc _)).mono ?_
    rintro e w' ⟨rfl, rfl⟩
    cases neg
    · go_wp2
      go_ret
      exact ⟨by rw [e2.out]; rfl, hB0⟩
    · go_wp2
      go_ret
      exact ⟨by rw [e2.out]; rfl, hB0⟩

theorem res1o {w w2 : World} {Y : Obj} (hB : Below ((w.alloc (.cells #[.bool false, .slice none 0 0] 24)).alloc Y).heap.size ((w.alloc (.cells #[.bool false, .slice none 0 0] 24)).alloc Y) w2) :
    Zb w2 w.heap.size false (.slice none 0 0) ∧ Below w.heap.size w w2 := by
  have hY := (Below.refl (w.alloc (.cells #[.bool false, .slice none 0 0] 24)).heap.size (w.alloc (.cells #[.bool false, .slice none 0 0] 24))).alloc (Nat.le_refl _) Y
  exact res1 (below_step hY hB)

theorem val_two (u : Nat) : val [(u : Int) % 4294967296, (u : Int) / 4294967296] = u := by
  simp only [val]
  omega
theorem lit_two (w : World) (o : Obj) (u : Nat) (h : u < 18446744073709551616) : Sl ((w.alloc o).alloc (.cells #[.int .u32 ((u : Int) % 4294967296), .int .u32 ((u : Int) / 4294967296)] 62)) (some ⟨w.heap.size + 1, 0, none⟩) 2 2 [(u : Int) % 4294967296, (u : Int) / 4294967296] := by
  have hR := Row.lit (w.alloc o) [(u : Int) % 4294967296, (u : Int) / 4294967296] (by intro x hx; simp at hx; omega) (by simp) _ rfl
  rw [show (w.alloc o).heap.size = w.heap.size + 1 by simp] at hR
  exact hR.toOwn.sl

set_option maxHeartbeats 1000000 in
set_option maxRecDepth 8000 in
theorem of_pos (w : World) (u : Nat) (h1 : u < 9223372036854775808) : Calls Try.prog 42 #[.int .i64 u] w (RetZ u w) := by
  have hw1 : IntKind.u64.wrap (u : Int) = u := IntWalk.u64_in _ (by omega)
  have hd : decide ((u : Int) < 0) = false := by simp
  go_enter Try.func42, Try.ntmps42
  go_wp2_with fail
  have hm := made_calls _ false _ _ _ _ (lit_two w (.cells #[.bool false, .slice none 0 0] 24) u (by omega))
  rw [val_two] at hm
  rw [show zof false u = (u : Int) from rfl] at hm
  replace hm := Lib.hid hm
  refine hm.out.mono ?_
  rintro e w2 ⟨A2, c2, rfl, hO, hB⟩
  have hb := hB.size
  rw [size2] at hb
  obtain ⟨hZ, hB2⟩ := res1o hB
  have hf := hZ.frozen
  have h0 := hZ.cell0
  have h1 := hZ.cell1
  rw [size2] at hO
  clear hB hm hd
  go_wp2
  refine bodyPost_ret (ret_store rfl _ _ _ _ _ _ _ hZ rfl) rfl ?_
  exact RetZ.store hO hB2 (by omega) (by omega)
set_option maxHeartbeats 1000000 in
set_option maxRecDepth 8000 in
theorem of_neg (w : World) (u : Nat) (h0 : 0 < u) (h1 : u ≤ 9223372036854775808) : Calls Try.prog 42 #[.int .i64 (-(u : Int))] w (RetZ (-(u : Int)) w) := by
  have hw1 : IntKind.u64.wrap (-(u : Int)) = 18446744073709551616 - u := by rw [IntKind.wrap_u64]; omega
  have hw2 : IntKind.u64.wrap (-(18446744073709551616 - (u : Int))) = u := by rw [IntKind.wrap_u64]; omega
  have hd : decide (-(u : Int) < 0) = true := by simp; omega
  go_enter Try.func42, Try.ntmps42
  go_wp2_with fail
  have hm := made_calls _ true _ _ _ _ (lit_two w (.cells #[.bool false, .slice none 0 0] 24) u (by omega))
  rw [val_two] at hm
  rw [show zof true u = -(u : Int) from rfl] at hm
  replace hm := Lib.hid hm
  refine hm.out.mono ?_
  rintro e w2 ⟨A2, c2, rfl, hO, hB⟩
  have hdt := Lib.hid hd
  rw [hdt.out]
  have hb := hB.size
  rw [size2] at hb
  obtain ⟨hZ, hB2⟩ := res1o hB
  have hf := hZ.frozen
  have h0 := hZ.cell0
  have h1 := hZ.cell1
  rw [size2] at hO
  clear hB hm hd
  go_wp2
  refine bodyPost_ret (ret_store rfl _ _ _ _ _ _ _ hZ rfl) rfl ?_
  have hfin := RetZ.store (g := w.heap.size) hO hB2 (by omega) (by omega)
  have hna : (-(u : Int)).natAbs = u := by omega
  rw [hdt.out, hna] at hfin
  exact hfin

/-- zint.Of is the number itself. -/
theorem of_calls (w : World) (z : Int) (h0 : -9223372036854775808 ≤ z) (h1 : z ≤ 9223372036854775807) : Calls Try.prog 42 #[.int .i64 z] w (RetZ z w) := by
  by_cases h : z < 0
  · obtain ⟨u, rfl⟩ : ∃ u : Nat, z = -(u : Int) := ⟨z.natAbs, by omega⟩
    exact of_neg w u (by omega) (by omega)
  · obtain ⟨u, rfl⟩ : ∃ u : Nat, z = (u : Int) := ⟨z.natAbs, by omega⟩
    exact of_pos w u (by omega)

/-- The text of a whole number. -/
def ztxt (z : Int) : ByteArray := if z < 0 then ⟨#[45]⟩ ++ strOfNums (decs z.natAbs) else strOfNums (decs z.natAbs)
/-- zint.Text of a number below nought, and of the others. -/
theorem ztext_calls (w : World) (neg : Bool) (A : Option Addr) (n c : Nat) (l : List Int) (h : Sl w A n c l) (hs : n ≤ 4398046511104) :
    Calls Try.prog 52 #[.agg #[.bool neg, .slice A n c]] w fun e w' => e = .returned (.string (ztxt (zof neg (val l)))) ∧ Below w.heap.size w w' := by
  have hB0 : Below w.heap.size w (w.alloc (.cells #[.bool neg, .slice A n c] 24)) := (Below.refl _ _).alloc (Nat.le_refl _) _
  have hZ0 := Zb.new w neg (.slice A n c)
  have hsz : (strOfNums (decs (val l))).size ≤ 87960930222080 := by
    have h1 := decR_len_val h.lim
    have h2 := h.len
    rw [strOfNums_size]
    unfold decs
    split
    · simp
    · rw [List.length_reverse]; omega
  have ht : ∀ v, Below w.heap.size w v → Calls Try.prog 81 #[.slice A n c] v fun e w' => e = .returned (.string (strOfNums (decs (val l)))) ∧ Below v.heap.size v w' := fun v hv => (text_calls v A n c l (h.below hv) (by omega)).mono fun _ _ h => h
  replace ht := Lib.hid ht
  by_cases hz : zof neg (val l) < 0
  · have hr := Lib.hid (show ztxt (zof neg (val l)) = ⟨#[45]⟩ ++ strOfNums (decs (val l)) by unfold ztxt; rw [if_pos hz, zof_abs])
    generalize strOfNums (decs (val l)) = T at *
    have hsg : (zof neg (val l)).sign = -1 := Int.sign_eq_neg_one_of_neg hz
    have hsc := sign_calls (w.alloc (.cells #[.bool neg, .slice A n c] 24)) neg A n c l (h.alloc _)
    rw [hsg] at hsc
    replace hsc := Lib.hid hsc
    clear hz hsg
    go_enter Try.func52, Try.ntmps52
    go_wp2_with fail
    refine hsc.out.mono ?_
    rintro e w2 ⟨rfl, hB2⟩
    have hZ2 := hZ0.below hB2 hZ0.lt
    have k0 := hZ2.cell0
    have k1 := hZ2.cell1
    have hBt := below_step hB0 hB2
    go_wp2_with fail
    refine (ht.out _ hBt).mono ?_
    rintro e w3 ⟨rfl, hB3⟩
    go_wp2
    go_ret
    exact ⟨by rw [hr.out]; rfl, below_step hBt hB3⟩
  · have hr := Lib.hid (show ztxt (zof neg (val l)) = strOfNums (decs (val l)) by unfold ztxt; rw [if_neg hz, zof_abs])
    generalize strOfNums (decs (val l)) = T at *
    have hsg : 0 ≤ (zof neg (val l)).sign := Int.sign_nonneg_iff.2 (by omega)
    have hsc := sign_calls (w.alloc (.cells #[.bool neg, .slice A n c] 24)) neg A n c l (h.alloc _)
    generalize (zof neg (val l)).sign = sg at *
    have hdd : decide (sg < 0) = false := by simp; omega
    replace hsc := Lib.hid hsc
    clear hz
    go_enter Try.func52, Try.ntmps52
    go_wp2_with fail
    refine hsc.out.mono ?_
    rintro e w2 ⟨rfl, hB2⟩
    have hZ2 := hZ0.below hB2 hZ0.lt
    have k0 := hZ2.cell0
    have k1 := hZ2.cell1
    have hBt := below_step hB0 hB2
    go_wp2_with fail
    refine (ht.out _ hBt).mono ?_
    rintro e w3 ⟨rfl, hB3⟩
    go_wp2
    go_ret
    exact ⟨by rw [hr.out]; rfl, below_step hBt hB3⟩
end Go.Proofs.Ytkidgeeedigkhaa
