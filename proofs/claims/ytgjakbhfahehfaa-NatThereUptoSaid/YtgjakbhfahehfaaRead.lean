/- nat.grow, nat.Read -/
import Derived.Test.YtgjakbhfahehfaaText
import Derived.Test.YtgjakbhfahehfaaNum10
import Derived.Laws.RangeAny
import Derived.Laws.RangeString
namespace Go.Proofs.Ytgjakbhfahehfaa
open Go.RowKit

/-- Times m and v0, in the memory that came in (the call's own), or in new memory. -/
def RetGrow (base : Nat) (n N : Nat) (w : World) (e : Ending) (w' : World) : Prop := ∃ A c n' l, e = .returned (.slice A n' c) ∧ Own w' base A n' c l ∧ val l = N ∧ n' ≤ n + 1 ∧ Below base w w' ∧ w.heap.size ≤ w'.heap.size
set_option maxHeartbeats 1000000 in
theorem grow_calls (w : World) (base : Nat) (A : Option Addr) (n c : Nat) (X : List Int) (m v : Int) (h : Own w base A n c X) (hb : base ≤ w.heap.size) (hm : 0 ≤ m ∧ m < 4294967296) (hv : 0 ≤ v ∧ v < 4294967296) (hs : n < 35184372088832) :
    Calls Try.prog 44 #[.slice A n c, .int .u32 m, .int .u32 v] w (RetGrow base n (val X * m.toNat + v.toNat) w) := by
  rcases Nat.eq_zero_or_pos n with hn | hn
  · have hX : X = [] := List.eq_nil_of_length_eq_zero (by rw [h.len]; exact hn)
    subst hn
    subst hX
    by_cases hv0 : 0 < v
    · go_enter Try.func44, Try.ntmps44
      go_wp2
      refine wp_loop_rounds 1 ?_
      rw [rounds_succ]
      go_wp2_with (at_builtin; refine append_u32 _ rfl _ _ rfl base A 0 c [] _ 1 1 [v] rfl rfl (h.alloc _) (Row.lit1 _ hv.1 hv.2).toOwn.sl ?_ ?_ ?_; omega; (simp; omega); intro A2 c2 w4 hO4 hg4 hat4)
      go_ret
      refine ⟨A2, c2, 1, [v], rfl, hO4, by rw [val_one]; simp [val], by omega, ?_, by have := hg4.size; simp at this; omega⟩
      exact ((Below.refl base w).alloc hb _).grown hg4 (by simp; omega) (fun k hk => (h.own.lt k hk).1)
    · obtain rfl : v = 0 := by omega
      go_enter Try.func44, Try.ntmps44
      go_wp2
      refine wp_loop_rounds 1 ?_
      rw [rounds_succ]
      go_wp2
      go_ret
      exact ⟨A, c, 0, [], rfl, h, by simp [val], by omega, Below.refl _ _, Nat.le_refl _⟩
  · obtain ⟨g, rfl, hR⟩ := h.row hn
    have hg := hR.lt
    obtain rfl := h.len
    have hXl := h.lim
    go_enter Try.func44, Try.ntmps44
    go_wp2
    go_loopw [7, 13] (fun cv iv wr => ∃ (k : Nat) (o : List Int) (cy : Int), k ≤ X.length ∧ cv = .int .u64 cy ∧ iv = .int .i64 k ∧ Hid (GrowInv X o m v k cy) ∧ 0 ≤ cy ∧ cy < 4294967296 ∧ Row wr base g c X.length o ∧ Below base w wr) (fun _ iv _ => X.length - (intOf iv).toNat)
    case atStart => exact ⟨0, X, v, Nat.zero_le _, rfl, rfl, GrowInv.start hXl hv.1 hv.2, hv.1, hv.2, hR, Below.refl _ _⟩
    case round =>
      clear hR
      obtain ⟨k, o, cy, hk, rfl, rfl, hinv, hc0, hc1, hR, hB⟩ := hrel
      by_cases hlt : k < X.length
      · have hcO := hR.cell k hlt
        rw [getD_of_drop hinv.out.tail] at hcO
        have hfO := hR.frozen k
        have hsz := hR.lt
        have hx := hXl.getD k
        have hp := mul_lim hx hm
        have hstep := Lib.hid (hinv.out.step hXl hm hlt)
        have hZ := Row.stored hR k (x := (cy + X.getD k 0 * m) % 4294967296) (by omega) (by omega)
        have hB2 := fun u => hB.setCell (p := ⟨g, k, none⟩) hg.1 u
        generalize X.getD k 0 = x at *
        go_wp2
        go_roundw
        case rel => exact ⟨k + 1, _, _, by omega, rfl, by go_num, hstep, by omega, by omega, hZ, hB2 _⟩
        case measure => simp [intOf] <;> omega
      · obtain rfl : k = X.length := by omega
        have hl := hinv.out.last
        by_cases hcy : 0 < cy
        · have hfin := Lib.hid (show val (o ++ [cy]) = val X * m.toNat + v.toNat by rw [val_append, val_one, hR.len]; exact hl)
          clear hl
          go_wp2_with (at_builtin; refine append_u32 _ rfl _ _ rfl base (some ⟨g, 0, none⟩) X.length c o _ 1 1 [cy] rfl rfl (hR.toOwn.alloc _) (Row.lit1 _ hc0 hc1).toOwn.sl ?_ ?_ ?_; omega; (have := hB.size; simp; omega); intro A2 c2 w4 hO4 hg4 hat4)
          go_ret
          refine ⟨A2, c2, _, _, rfl, hO4, hfin.out, by omega, ?_, by have := hg4.size; have := hB.size; simp at *; omega⟩
          exact (hB.alloc (by have := hB.size; omega) _).grown hg4 (by have := hB.size; simp; omega) (fun k hk => (hR.toOwn.own.lt k hk).1)
        · obtain rfl : cy = 0 := by omega
          have hfin := Lib.hid (show val o = val X * m.toNat + v.toNat by simpa using hl)
          clear hl
          go_wp2
          go_ret
          exact ⟨_, _, _, o, rfl, hR.toOwn, hfin.out, by omega, hB, hB.size⟩

/-- No number, a place, an error. -/
def RetBad (at_ k : Int) (w : World) (e : Ending) (w' : World) : Prop := e = .returned (.tuple #[.slice none 0 0, .int .i64 at_, .int .i64 k]) ∧ Below w.heap.size w w'
theorem read_long (s : ByteArray) (w : World) (h : 65536 < s.size) (hm : s.size ≤ 9223372036854775807) : Calls Try.prog 14 #[.string s] w (RetBad 0 2 w) := by
  go_enter Try.func14, Try.ntmps14
  go_wp2
  go_ret3
  exact ⟨rfl, Below.refl _ _⟩

theorem below_iter (w : World) (s : ByteArray) (p : Nat) : Below w.heap.size w (w.iter s p) := (Below.refl _ _).alloc (Nat.le_refl _) _

set_option maxHeartbeats 1000000 in
theorem read_bad (s : ByteArray) (w : World) (hm : s.size ≤ 65536) (i : Nat) (hi : i < s.size) (hbad : BadAt s i) (hgood : ∀ j, j < i → ¬ BadAt s j) : Calls Try.prog 14 #[.string s] w (RetBad i 4 w) := by
  have HG := Lib.hid hgood
  have HB := Lib.hid hbad
  clear hgood hbad
  go_enter Try.func14, Try.ntmps14
  go_wp2
  go_loopw [] (fun w' => ∃ pos : Nat, pos ≤ i ∧ w' = w.iter s pos) (fun w' => s.size - w'.iterPos w.heap.size)
  case atStart => exact ⟨0, Nat.zero_le _, rfl⟩
  case round =>
    obtain ⟨pos, hpos, rfl⟩ := hrel
    have hp : pos < s.size := by omega
    have hb0 := byteN_at hp
    by_cases hlt : pos < i
    · have hg := HG.out pos hlt
      unfold BadAt at hg
      have ha : (s[pos]'hp).toNat < 128 := by rw [← hb0]; omega
      have hnx : ∀ ty, (Instr.next (.pointer (some ⟨w.heap.size, 0, none⟩)) true ty).run Try.prog (w.iter s pos) = _ := fun ty => run_next_ascii w s pos ty hp ha
      have h1 : 48 ≤ (s[pos]'hp).toNat := by rw [← hb0]; omega
      have h2 : (s[pos]'hp).toNat ≤ 57 := by rw [← hb0]; omega
      by_cases hp1 : pos = 1
      · subst hp1
        have h00 : 0 < s.size := by omega
        have h3 : (((s[0]'h00).toNat : Int) == 48) = false := beq_eq_false_iff_ne.2 (by have := byteN_at h00; omega)
        clear hg hb0
        go_wp2
        go_roundw
        case rel => exact ⟨2, by omega, rfl⟩
        case measure => simp; omega
      · have h3 : ((pos : Int) == 1) = false := beq_eq_false_iff_ne.2 (by omega)
        clear hg hb0
        go_wp2
        go_roundw
        case rel => exact ⟨pos + 1, by omega, rfl⟩
        case measure => simp; omega
    · obtain rfl : pos = i := by omega
      have hb := HB.out
      unfold BadAt at hb
      rw [hb0] at hb
      by_cases ha : (s[pos]'hp).toNat < 128
      · have hnx : ∀ ty, (Instr.next (.pointer (some ⟨w.heap.size, 0, none⟩)) true ty).run Try.prog (w.iter s pos) = _ := fun ty => run_next_ascii w s pos ty hp ha
        by_cases h1 : (s[pos]'hp).toNat < 48
        · clear hb hb0
          go_wp2
          go_ret3
          exact ⟨rfl, below_iter _ _ _⟩
        · by_cases h2 : 57 < (s[pos]'hp).toNat
          · clear hb hb0
            go_wp2
            go_ret3
            exact ⟨rfl, below_iter _ _ _⟩
          · have h3 : pos = 1 ∧ byteN s 0 = 48 := by omega
            obtain ⟨rfl, h4⟩ := h3
            have h00 : 0 < s.size := by omega
            rw [byteN_at h00] at h4
            have h5 : (((s[0]'h00).toNat : Int) == 48) = true := by rw [h4]; rfl
            clear hb hb0 h4
            go_wp2
            go_ret3
            exact ⟨rfl, below_iter _ _ _⟩
      · have hhi := decode_high s pos hp (by omega)
        have hle := decode_le s pos
        have hnx : ∀ ty, (Instr.next (.pointer (some ⟨w.heap.size, 0, none⟩)) true ty).run Try.prog (w.iter s pos) = _ := fun ty => run_next_any w s pos ty hp
        have h1 : 57 < (Utf8.decode s pos).1 := by omega
        clear hb hb0
        go_wp2
        go_ret3
        exact ⟨rfl, below_iter _ _ _⟩

theorem read_empty (s : ByteArray) (w : World) (h : s.size = 0) : Calls Try.prog 14 #[.string s] w (RetBad 0 4 w) := by
  obtain rfl : s = ⟨#[]⟩ := by
    apply ByteArray.ext
    exact Array.eq_empty_of_size_eq_zero h
  clear h
  have hnx : ∀ ty, (Instr.next (.pointer (some ⟨w.heap.size, 0, none⟩)) true ty).run Try.prog (w.iter ⟨#[]⟩ 0) = _ := fun ty => run_next_end w ⟨#[]⟩ 0 ty (by simp [ByteArray.size])
  go_enter Try.func14, Try.ntmps14
  go_wp2
  refine wp_loop_rounds 1 ?_
  rw [rounds_succ]
  go_wp2
  go_ret3
  exact ⟨rfl, below_iter _ _ _⟩
end Go.Proofs.Ytgjakbhfahehfaa
