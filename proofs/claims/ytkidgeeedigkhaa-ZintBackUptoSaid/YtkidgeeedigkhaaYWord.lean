/- zint.word -/
import Derived.Test.YtkidgeeedigkhaaYTwo
namespace Go.Proofs.Ytkidgeeedigkhaa
open Go.RowKit

set_option maxHeartbeats 2000000 in
set_option maxRecDepth 8000 in
theorem word_two (w : World) (A : Option Addr) (n c : Nat) (l : List Int) (h : Sl w A n c l) (hs : n ≤ 35184372088832) (x y : Int) (hd : digs (val l) = [x, y]) :
    Calls Try.prog 65 #[.slice A n c] w (Ret (.tup2 (.is (.int .u64 (x + 4294967296 * y))) (.is (.bool true))) w) := by
  have hl := digs_lim (val l)
  rw [hd] at hl
  have hx := hl.head
  have h0 : bits .or .u64 0 x = x := by
    have := or64 32 0 x (by omega) (by omega) (by simp) hx.1 (by omega) (by omega)
    omega
  have hy := hl.tail.head
  have h1 : bits .or .u64 x (y * 4294967296) = x + 4294967296 * y := or64_r x y hx.1 hx.2 hy.1 hy.2
  have hN := norm_calls w A n c l h hs
  unfold RetNum at hN
  rw [hd] at hN
  replace hN := Lib.hid hN
  clear hl
  go_enter Try.func65, Try.ntmps65
  go_wp2_with fail
  refine hN.out.mono ?_
  rintro e w1 ⟨A1, c1, rfl, hO, hB⟩
  obtain ⟨g, rfl, hR⟩ := hO.row (by simp)
  have c0 := hR.cell 0 (by simp)
  have c1 := hR.cell 1 (by simp)
  simp only [List.getD_cons_zero, List.getD_cons_succ] at c0 c1
  simp only [List.length_cons, List.length_nil, Nat.zero_add, Nat.reduceAdd]
  clear hN hO
  go_wp2
  refine wp_loop_rounds 3 ?_
  rw [rounds_succ]
  go_wp2
  rw [rounds_succ]
  go_wp2
  rw [rounds_succ]
  go_wp2
  exact bodyPost_ret (results_tmp2 (t := 2) (u := 3) rfl _ _ _) rfl ⟨_, rfl, ⟨_, _, rfl, rfl, rfl⟩, hB⟩

set_option maxHeartbeats 2000000 in
set_option maxRecDepth 8000 in
theorem word_one (w : World) (A : Option Addr) (n c : Nat) (l : List Int) (h : Sl w A n c l) (hs : n ≤ 35184372088832) (x : Int) (hd : digs (val l) = [x]) :
    Calls Try.prog 65 #[.slice A n c] w (Ret (.tup2 (.is (.int .u64 x)) (.is (.bool true))) w) := by
  have hl := digs_lim (val l)
  rw [hd] at hl
  have hx := hl.head
  have h0 : bits .or .u64 0 x = x := by
    have := or64 32 0 x (by omega) (by omega) (by simp) hx.1 (by omega) (by omega)
    omega
  have hN := norm_calls w A n c l h hs
  unfold RetNum at hN
  rw [hd] at hN
  replace hN := Lib.hid hN
  clear hl
  go_enter Try.func65, Try.ntmps65
  go_wp2_with fail
  refine hN.out.mono ?_
  rintro e w1 ⟨A1, c1, rfl, hO, hB⟩
  obtain ⟨g, rfl, hR⟩ := hO.row (by simp)
  have c0 := hR.cell 0 (by simp)
  simp only [List.getD_cons_zero] at c0
  simp only [List.length_cons, List.length_nil, Nat.zero_add]
  clear hN hO
  go_wp2
  refine wp_loop_rounds 2 ?_
  rw [rounds_succ]
  go_wp2
  rw [rounds_succ]
  go_wp2
  exact bodyPost_ret (results_tmp2 (t := 2) (u := 3) rfl _ _ _) rfl ⟨_, rfl, ⟨_, _, rfl, rfl, rfl⟩, hB⟩

set_option maxHeartbeats 2000000 in
set_option maxRecDepth 8000 in
theorem word_nil (w : World) (A : Option Addr) (n c : Nat) (l : List Int) (h : Sl w A n c l) (hs : n ≤ 35184372088832) (hd : digs (val l) = []) :
    Calls Try.prog 65 #[.slice A n c] w (Ret (.tup2 (.is (.int .u64 0)) (.is (.bool true))) w) := by
  have hl := digs_lim (val l)
  rw [hd] at hl
  have hN := norm_calls w A n c l h hs
  unfold RetNum at hN
  rw [hd] at hN
  replace hN := Lib.hid hN
  clear hl
  go_enter Try.func65, Try.ntmps65
  go_wp2_with fail
  refine hN.out.mono ?_
  rintro e w1 ⟨A1, c1, rfl, hO, hB⟩
  simp only [List.length_nil]
  clear hN hO
  go_wp2
  refine wp_loop_rounds 1 ?_
  rw [rounds_succ]
  go_wp2
  exact bodyPost_ret (results_tmp2 (t := 2) (u := 3) rfl _ _ _) rfl ⟨_, rfl, ⟨_, _, rfl, rfl, rfl⟩, hB⟩

theorem word_k {w : World} {x : Value} {M N : Nat} (h : Nz N w x M) (hN : N ≤ 35184372088832) (hM : M < 18446744073709551616) : Calls Try.prog 65 #[x] w (Ret (.tup2 (.is (.int .u64 (M : Int))) (.is (.bool true))) w) := by
  obtain ⟨A, n, c, l, rfl, hS, rfl, hn⟩ := h
  have hlen : (digs (val l)).length ≤ 2 := digs_len_le (by omega)
  have hv := val_digs (val l)
  have hl := digs_lim (val l)
  match hd : digs (val l), hlen with
  | [], _ =>
    rw [hd] at hv
    rw [← hv]
    exact word_nil w A n c l hS (by omega) hd
  | [a], _ =>
    rw [hd] at hv hl
    have ha := hl.head
    have e : ((val l : Nat) : Int) = a := by rw [← hv]; simp only [val]; omega
    rw [e]
    exact word_one w A n c l hS (by omega) a hd
  | [a, b], _ =>
    rw [hd] at hv hl
    have ha := hl.head
    have hb := hl.tail.head
    have e : ((val l : Nat) : Int) = a + 4294967296 * b := by rw [← hv]; simp only [val]; omega
    rw [e]
    exact word_two w A n c l hS (by omega) a b hd
  | _ :: _ :: _ :: _, h => simp at h
end Go.Proofs.Ytkidgeeedigkhaa
