
/- ref02.made: a whole number in its one form. The contracts of nat, ref01 and zint in the form that plans take: of values that stand for numbers. ref02.Of law02.own: the same number in limbs of its own. Slices in their one form. -/
import Derived.Test.YtdmahjbjlppeaaaA4
import Derived.Test.YtdmahjbjlppeaaaA3
import Derived.Test.YtdmahjbjlppeaaaA5
import Derived.Test.YtdmahjbjlppeaaaA2
namespace Go.Proofs.Ytdmahjbjlppeaaa
open Go.RowKit

set_option maxHeartbeats 1000000 in
set_option maxRecDepth 8000 in
theorem rmade_calls (w : World) (neg : Bool) (A : Option Addr) (n c : Nat) (l : List Int) (h : Sl w A n c l) (hs : n ≤ 35184372088832) :
    Calls Try.prog 81 #[.bool neg, .slice A n c] w (RetZ (zof neg (val l)) w) := by
  have hd : (decide (0 < (digs (val l)).length) && neg) = decide (zof neg (val l) < 0) := by
    by_cases h0 : val l = 0
    · rw [h0, digs_zero]
      cases neg <;> simp [zof]
    · have : (digs (val l)).length ≠ 0 := fun e => h0 ((digs_nil_iff (val l)).1 (List.eq_nil_of_length_eq_zero e))
      rw [zof_neg (by omega)]
      have e : decide (0 < (digs (val l)).length) = true := by simp; omega
      rw [e, Bool.true_and]
  have hn := Lib.hid (zof_abs neg (val l))
  replace hd := Lib.hid hd
  go_enter Try.func81, Try.ntmps81
  go_wp2_with fail
  refine (rnorm_calls _ A n c l (h.alloc _) hs).mono ?_
  rintro e w2 ⟨A2, c2, rfl, hO, hB⟩
  obtain ⟨hZ, hB2⟩ := res1 hB
  have hf := hZ.frozen
  have h0 := hZ.cell0
  have h1 := hZ.cell1
  have hlt : w.heap.size < (w.alloc (.cells #[.bool false, .slice none 0 0] 24)).heap.size := by simp
  have fin : RetZ (zof neg (val l)) w (.returned (.agg #[.bool (decide (zof neg (val l) < 0)), .slice A2 (digs (val l)).length c2])) ((w2.setCell ⟨w.heap.size, 0, none⟩ (.bool (decide (zof neg (val l) < 0)))).setCell ⟨w.heap.size, 1, none⟩ (.slice A2 (digs (val l)).length c2)) := by
    have hO2 : Own w2 (w.alloc (.cells #[.bool false, .slice none 0 0] 24)).heap.size A2 (digs (zof neg (val l)).natAbs).length c2 (digs (zof neg (val l)).natAbs) := by rw [hn.out]; exact hO
    have := RetZ.store hO2 hB2 (Nat.le_refl _) hlt
    rwa [hn.out] at this
  clear hB
  rw [← hd.out] at fin
  replace fin := Lib.hid fin
  cases neg
  · simp only [Bool.and_false] at fin
    go_wp2
    refine bodyPost_ret (ret_store rfl _ _ _ _ _ _ _ hZ rfl) rfl ?_
    exact fin.out
  · simp only [Bool.and_true] at fin
    go_wp2
    refine bodyPost_ret (ret_store rfl _ _ _ _ _ _ _ hZ rfl) rfl ?_
    exact fin.out
end Go.Proofs.Ytdmahjbjlppeaaa

namespace Go.Proofs.Ytdmahjbjlppeaaa
open Go.RowKit

theorem Nz.len {N M : Nat} {w : World} {x : Value} (h : Nz N w x M) : (digs M).length ≤ N := by
  obtain ⟨A, n, c, l, rfl, hS, rfl, hn⟩ := h
  have := digs_val_len hS.lim
  have := hS.len
  omega
theorem Nz.of_own {K M : Nat} {w : World} {b c : Nat} {A : Option Addr} (h : Own w b A (digs M).length c (digs M)) (hK : (digs M).length ≤ K) : Nz K w (.slice A (digs M).length c) M := ⟨A, _, c, _, rfl, h.sl, val_digs M, hK⟩
theorem Nz.of_sl {K M : Nat} {w : World} {c : Nat} {A : Option Addr} (h : Sl w A (digs M).length c (digs M)) (hK : (digs M).length ≤ K) : Nz K w (.slice A (digs M).length c) M := ⟨A, _, c, _, rfl, h, val_digs M, hK⟩
theorem RetNum.k {N K : Nat} {w : World} {e : Ending} {w' : World} (h : RetNum N w e w') (hK : (digs N).length ≤ K) : Ret (.nz K N) w e w' := by
  obtain ⟨A, c, rfl, hO, hB⟩ := h
  exact ⟨_, rfl, Nz.of_own hO hK, hB⟩
theorem RetNumE.k {N K : Nat} {k : Int} {w : World} {e : Ending} {w' : World} (h : RetNumE N k w e w') (hK : (digs N).length ≤ K) : Ret (.tup2 (.nz K N) (.is (.int .i64 k))) w e w' := by
  obtain ⟨A, c, rfl, hO, hB⟩ := h
  exact ⟨_, rfl, ⟨_, _, rfl, Nz.of_own hO hK, rfl⟩, hB⟩
theorem RetQ.k {v : Value} {w : World} {e : Ending} {w' : World} (h : RetQ v w e w') : Ret (.is v) w e w' := by
  obtain ⟨rfl, hd⟩ := h
  exact ⟨_, rfl, rfl, below_drawn (Below.refl _ _) hd⟩
theorem ret_same {v : Value} {w : World} {e : Ending} {w' : World} (h : e = .returned v ∧ w = w') : Ret (.is v) w e w' := by
  obtain ⟨rfl, rfl⟩ := h
  exact ⟨_, rfl, rfl, Below.refl _ _⟩
theorem ret_is {v : Value} {w : World} {e : Ending} {w' : World} (h : e = .returned v ∧ Below w.heap.size w w') : Ret (.is v) w e w' := ⟨v, h.1, rfl, h.2⟩

theorem dl_le {a b : Nat} (h : a ≤ b) : (digs a).length ≤ (digs b).length := digs_len_le (Nat.lt_of_le_of_lt h (digs_len_lt_iff.1 (Nat.le_refl _)))
theorem dl_add {a b n m k : Nat} (ha : (digs a).length ≤ n) (hb : (digs b).length ≤ m) (h1 : n < k) (h2 : m < k) : (digs (a + b)).length ≤ k := by
  have := len_add (y := (a : Int)) (z := (b : Int)) (k := k - 1) (by simpa using (by omega : (digs a).length ≤ k - 1)) (by simpa using (by omega : (digs b).length ≤ k - 1))
  have e : ((a : Int) + (b : Int)).natAbs = a + b := by omega
  rw [e] at this
  omega
theorem dl_mul {a b n m : Nat} (ha : (digs a).length ≤ n) (hb : (digs b).length ≤ m) : (digs (a * b)).length ≤ n + m := by
  have := len_mul (y := (a : Int)) (z := (b : Int)) (k := n) (m := m) (by simpa using ha) (by simpa using hb)
  rwa [Int.natAbs_mul, Int.natAbs_natCast, Int.natAbs_natCast] at this

section
variable {w : World} {x y : Value} {a b N M : Nat}
theorem nadd_k {K : Nat} (h : Nz N w x a) (h' : Nz M w y b) (hN : N < 70368744177664) (hM : M < 70368744177664) (h1 : N < K) (h2 : M < K) : Calls Try.prog 92 #[x, y] w (Ret (.nz K (a + b)) w) := by
  have hK := dl_add h.len h'.len h1 h2
  obtain ⟨A, n, c, l, rfl, hS, rfl, hn⟩ := h
  obtain ⟨A', n', c', l', rfl, hS', rfl, hn'⟩ := h'
  exact (add_calls w A n c l A' n' c' l' hS hS' (by omega) (by omega) _ rfl).mono fun _ _ h => h.k hK
theorem nmul_k {K : Nat} (h : Nz N w x a) (h' : Nz M w y b) (hs : N + M ≤ K) (hK2 : K ≤ 70368744177664) : Calls Try.prog 91 #[x, y] w (Ret (.nz K (a * b)) w) := by
  have hK := dl_mul h.len h'.len
  obtain ⟨A, n, c, l, rfl, hS, rfl, hn⟩ := h
  obtain ⟨A', n', c', l', rfl, hS', rfl, hn'⟩ := h'
  exact (mul_calls w A n c l A' n' c' l' hS hS' (by omega)).mono fun _ _ h => h.k (by omega)
theorem ngcd_k {K : Nat} (h : Nz N w x a) (h' : Nz M w y b) (hN : N ≤ 35184372088829) (hM : M ≤ 35184372088829) (h1 : N ≤ K) (h2 : M ≤ K) : Calls Try.prog 108 #[x, y] w (Ret (.nz K (Nat.gcd a b)) w) := by
  have hK : (digs (Nat.gcd a b)).length ≤ K := by
    have e1 := h.len
    have e2 := h'.len
    rcases Nat.eq_zero_or_pos a with h0 | h0
    · rw [h0, Nat.gcd_zero_left]; omega
    · have := dl_le (Nat.gcd_le_left b h0); omega
  obtain ⟨A, n, c, l, rfl, hS, rfl, hn⟩ := h
  obtain ⟨A', n', c', l', rfl, hS', rfl, hn'⟩ := h'
  exact (gcd_calls w A n c l A' n' c' l' hS hS' (by omega) (by omega)).mono fun _ _ h => h.k hK
theorem rgcd_k {K : Nat} (h : Nz N w x a) (h' : Nz M w y b) (hN : N ≤ 35184372088829) (hM : M ≤ 35184372088829) (h1 : N ≤ K) (h2 : M ≤ K) : Calls Try.prog 49 #[x, y] w (Ret (.nz K (Nat.gcd a b)) w) := by
  have hK : (digs (Nat.gcd a b)).length ≤ K := by
    have e1 := h.len
    have e2 := h'.len
    rcases Nat.eq_zero_or_pos a with h0 | h0
    · rw [h0, Nat.gcd_zero_left]; omega
    · have := dl_le (Nat.gcd_le_left b h0); omega
  obtain ⟨A, n, c, l, rfl, hS, rfl, hn⟩ := h
  obtain ⟨A', n', c', l', rfl, hS', rfl, hn'⟩ := h'
  exact (rgcd_calls w A n c l A' n' c' l' hS hS' (by omega) (by omega)).mono fun _ _ h => h.k hK
theorem radd_k {K : Nat} (h : Nz N w x a) (h' : Nz M w y b) (hN : N < 35184372088832) (hM : M < 35184372088832) (h1 : N < K) (h2 : M < K) : Calls Try.prog 94 #[x, y] w (Ret (.nz K (a + b)) w) := by
  have hK := dl_add h.len h'.len h1 h2
  obtain ⟨A, n, c, l, rfl, hS, rfl, hn⟩ := h
  obtain ⟨A', n', c', l', rfl, hS', rfl, hn'⟩ := h'
  exact (radd_calls w A n c l A' n' c' l' hS hS' (by omega) (by omega)).mono fun _ _ h => h.k hK
theorem rmul_k {K : Nat} (h : Nz N w x a) (h' : Nz M w y b) (hs : N + M ≤ K) (hK2 : K ≤ 35184372088832) : Calls Try.prog 85 #[x, y] w (Ret (.nz K (a * b)) w) := by
  have hK := dl_mul h.len h'.len
  obtain ⟨A, n, c, l, rfl, hS, rfl, hn⟩ := h
  obtain ⟨A', n', c', l', rfl, hS', rfl, hn'⟩ := h'
  exact (rmul_calls w A n c l A' n' c' l' hS hS' (by omega)).mono fun _ _ h => h.k (by omega)
theorem rsub_k (h : Nz N w x a) (h' : Nz M w y b) (hN : N ≤ 35184372088832) (hle : b ≤ a) : Calls Try.prog 95 #[x, y] w (Ret (.tup2 (.nz N (a - b)) (.is (.int .i64 0))) w) := by
  have hK := h.len
  have hK2 := dl_le (show a - b ≤ a by omega)
  obtain ⟨A, n, c, l, rfl, hS, rfl, hn⟩ := h
  obtain ⟨A', n', c', l', rfl, hS', rfl, hn'⟩ := h'
  exact (rsub_calls w A n c l A' n' c' l' hS hS' (by omega) hle).mono fun _ _ h => h.k (by omega)
theorem rcmp_k (h : Nz N w x a) (h' : Nz M w y b) : Calls Try.prog 86 #[x, y] w (Ret (.is (.int .i64 (cmpN a b))) w) := by
  obtain ⟨A, n, c, l, rfl, hS, rfl, hn⟩ := h
  obtain ⟨A', n', c', l', rfl, hS', rfl, hn'⟩ := h'
  exact (rcmp_calls w A n c l A' n' c' l' hS hS').mono fun _ _ h => ret_same h
theorem ncmp_k (h : Nz N w x a) (h' : Nz M w y b) : Calls Try.prog 90 #[x, y] w (Ret (.is (.int .i64 (cmpN a b))) w) := by
  obtain ⟨A, n, c, l, rfl, hS, rfl, hn⟩ := h
  obtain ⟨A', n', c', l', rfl, hS', rfl, hn'⟩ := h'
  exact (cmp_calls w A n c l A' n' c' l' hS hS').mono fun _ _ h => RetQ.k h
theorem nbits_k (h : Nz N w x a) : Calls Try.prog 77 #[x] w (Ret (.is (.int .i64 (blen a))) w) := by
  obtain ⟨A, n, c, l, rfl, hS, rfl, hn⟩ := h
  exact (bits_calls w A n c l hS).mono fun _ _ h => ret_same h
theorem rbits_k (h : Nz N w x a) : Calls Try.prog 84 #[x] w (Ret (.is (.int .i64 (blen a))) w) := by
  obtain ⟨A, n, c, l, rfl, hS, rfl, hn⟩ := h
  exact (rbits_calls w A n c l hS).mono fun _ _ h => ret_same h
theorem rnorm_k (h : Nz N w x a) (hN : N ≤ 35184372088832) : Calls Try.prog 45 #[x] w (Ret (.nz N a) w) := by
  have hK := h.len
  obtain ⟨A, n, c, l, rfl, hS, rfl, hn⟩ := h
  exact (rnorm_calls w A n c l hS (by omega)).mono fun _ _ h => h.k hK
theorem rtwo_k {K : Nat} (hx : x = .int .i64 a) (ha : a < 1125899906842592) (hK : a / 32 + 1 ≤ K) : Calls Try.prog 83 #[x] w (Ret (.nz K (2 ^ a)) w) := by
  subst hx
  refine (two_calls w a ha).mono fun _ _ h => h.k (digs_len_le ?_)
  have e : (4294967296 : Nat) ^ K = 2 ^ (32 * K) := by rw [Nat.pow_mul]
  rw [e]
  exact Nat.pow_lt_pow_right (by omega) (by omega)
theorem root_len (h : (digs a).length ≤ N) : (digs (rootN a)).length ≤ N := Nat.le_trans (dl_le (by
  have := rootN_le a
  exact this)) h
theorem ndiv_k (h : Nz N w x a) (h' : Nz M w y b) (hN : N ≤ 35184372088829) (h0 : 0 < b) : Calls Try.prog 75 #[x, y] w (Ret (.tup3 (.nz N (a / b)) (.nz N (a % b)) (.is (.int .i64 0))) w) := by
  have hK := h.len
  have h1 := dl_le (Nat.div_le_self a b)
  have h2 := dl_le (Nat.mod_le a b)
  obtain ⟨A, n, c, l, rfl, hS, rfl, hn⟩ := h
  obtain ⟨A', n', c', l', rfl, hS', rfl, hn'⟩ := h'
  refine (div_calls w A n c l A' n' c' l' hS hS' h0 (by omega)).mono fun _ _ h => ?_
  obtain ⟨B, d, B', d', rfl, hO, hO', _, hB⟩ := h
  exact ⟨_, rfl, ⟨_, _, _, rfl, Nz.of_own hO (by omega), Nz.of_own hO' (by omega), rfl⟩, hB⟩
theorem rdiv_k (h : Nz N w x a) (h' : Nz M w y b) (hN : N ≤ 35184372088829) (hM : M ≤ 35184372088829) (h0 : 0 < b) : Calls Try.prog 50 #[x, y] w (Ret (.tup3 (.nz N (a / b)) (.nz N (a % b)) (.is (.int .i64 0))) w) := by
  have hK := h.len
  have h1 := dl_le (Nat.div_le_self a b)
  have h2 := dl_le (Nat.mod_le a b)
  obtain ⟨A, n, c, l, rfl, hS, rfl, hn⟩ := h
  obtain ⟨A', n', c', l', rfl, hS', rfl, hn'⟩ := h'
  refine (rdiv_calls w A n c l A' n' c' l' hS hS' h0 (by omega) (by omega)).mono fun _ _ h => ?_
  obtain ⟨B, d, B', d', rfl, hO, hO', hB⟩ := h
  exact ⟨_, rfl, ⟨_, _, _, rfl, Nz.of_own hO (by omega), Nz.of_own hO' (by omega), rfl⟩, hB⟩
theorem rmade_k {s : Bool} (hx : x = .bool s) (h : Nz N w y a) (hN : N ≤ 35184372088832) : Calls Try.prog 81 #[x, y] w (Ret (.cz (zof s a)) w) := by
  subst hx
  obtain ⟨A, n, c, l, rfl, hS, rfl, hn⟩ := h
  exact (rmade_calls w s A n c l hS (by omega)).mono fun _ _ h => h.c
theorem zmade_k {s : Bool} (hx : x = .bool s) (h : Nz N w y a) : Calls Try.prog 76 #[x, y] w (Ret (.cz (zof s a)) w) := by
  subst hx
  obtain ⟨A, n, c, l, rfl, hS, rfl, hn⟩ := h
  exact (made_calls w s A n c l hS).mono fun _ _ h => h.c
end

section
variable {w : World} {x y : Value} {z u : Int} {N M : Nat}
theorem neg_k (h : Az N w x z) : Calls Try.prog 78 #[x] w (Ret (.cz (-z)) w) := by
  obtain ⟨neg, A, n, c, l, rfl, hS, rfl, hn⟩ := h
  rw [← zof_not]
  exact (neg_calls w neg A n c l hS).mono fun _ _ h => h.c
theorem abs_k (h : Az N w x z) : Calls Try.prog 67 #[x] w (Ret (.cz (z.natAbs : Int)) w) := by
  obtain ⟨neg, A, n, c, l, rfl, hS, rfl, hn⟩ := h
  rw [zof_abs]
  exact (abs_calls w neg A n c l hS).mono fun _ _ h => h.c
theorem form_k (h : Az N w x z) : Calls Try.prog 51 #[x] w (Ret (.cz z) w) := form_c h
theorem add_k (h : Az N w x z) (h' : Az M w y u) (hN : N ≤ 35184372088832) (hM : M ≤ 35184372088832) : Calls Try.prog 58 #[x, y] w (Ret (.cz (z + u)) w) := add_c h h' hN hM
theorem sub_k (h : Az N w x z) (h' : Az M w y u) (hN : N ≤ 35184372088832) (hM : M ≤ 35184372088832) : Calls Try.prog 60 #[x, y] w (Ret (.cz (z - u)) w) := sub_c h h' hN hM
theorem mul_k (h : Az N w x z) (h' : Az M w y u) (hN : N ≤ 35184372088832) (hM : M ≤ 35184372088832) : Calls Try.prog 55 #[x, y] w (Ret (.cz (z * u)) w) := mul_c h h' hN hM
theorem sign_k (h : Az N w x z) : Calls Try.prog 43 #[x] w (Ret (.is (.int .i64 z.sign)) w) := by
  obtain ⟨neg, A, n, c, l, rfl, hS, rfl, hn⟩ := h
  exact (sign_calls w neg A n c l hS).mono fun _ _ h => ret_is h
theorem of_k (hx : x = .int .i64 z) (h0 : -9223372036854775808 ≤ z) (h1 : z ≤ 9223372036854775807) : Calls Try.prog 52 #[x] w (Ret (.cz z) w) := by
  subst hx
  exact (of_calls w z h0 h1).mono fun _ _ h => h.c
end
theorem len_add' {y z : Int} {k m n : Nat} (hy : (digs y.natAbs).length ≤ k) (hz : (digs z.natAbs).length ≤ m) (hk : k + 1 ≤ n) (hm : m + 1 ≤ n) : (digs (y + z).natAbs).length ≤ n :=
  Nat.le_trans (len_add (k := n - 1) (by omega) (by omega)) (by omega)
theorem len_sub' {y z : Int} {k m n : Nat} (hy : (digs y.natAbs).length ≤ k) (hz : (digs z.natAbs).length ≤ m) (hk : k + 1 ≤ n) (hm : m + 1 ≤ n) : (digs (y - z).natAbs).length ≤ n := by
  rw [Int.sub_eq_add_neg]
  exact len_add' hy (len_neg hz) hk hm
theorem Az.of_nz {N M : Nat} {w : World} {b : Bool} {A : Option Addr} {n c : Nat} (h : Nz N w (.slice A n c) M) : Az N w (.agg #[.bool b, .slice A n c]) (zof b M) := by
  obtain ⟨A', n', c', l, e, hS, rfl, hn⟩ := h
  injection e with e1 e2 e3
  subst e1 e2 e3
  exact ⟨b, A, n, c, l, rfl, hS, rfl, hn⟩
theorem len_abs {z : Int} {k : Nat} (hz : (digs z.natAbs).length ≤ k) : (digs ((z.natAbs : Int)).natAbs).length ≤ k := by simpa using hz
theorem zof_mul (s t : Bool) (a b : Nat) : zof (!(s == t)) (a * b) = zof s a * zof t b := by
  unfold zof
  cases s <;> cases t <;> simp [Int.neg_mul, Int.mul_neg]
set_option maxHeartbeats 1000000 in
set_option maxRecDepth 8000 in
theorem r2sign_k {w : World} {x : Value} {z : Int} {N : Nat} (h : Az N w x z) (hN : N ≤ 35184372088832) : Calls Try.prog 14 #[x] w (Ret (.is (.int .i64 z.sign)) w) := by
  obtain ⟨neg, A, n, c, l, rfl, h, rfl, hn⟩ := h
  have hs := Lib.hid (sign_zof neg (val l))
  have hB0 : Below w.heap.size w (w.alloc (.cells #[.bool neg, .slice A n c] 24)) := (Below.refl _ _).alloc (Nat.le_refl _) _
  have hZ0 := Zb.new w neg (.slice A n c)
  have hdd : (digs (val l)).length = 0 ↔ val l = 0 := ⟨fun e => (digs_nil_iff _).1 (List.eq_nil_of_length_eq_zero e), fun e => by rw [e, digs_zero]; rfl⟩
  rcases Nat.eq_zero_or_pos (val l) with h0 | h0
  · have e1 := Lib.hid (show (digs (val l)).length = 0 from hdd.2 h0)
    have e2 := Lib.hid (show (zof neg (val l)).sign = 0 by rw [hs.out, if_pos h0])
    clear hdd
    go_enter Try.func14, Try.ntmps14
    go_wp2_with fail
    refine (rnorm_calls _ _ _ _ _ (h.alloc _) (by omega)).mono ?_
    rintro e w' ⟨A2, c2, rfl, hO, hB⟩
    rw [e1.out]
    go_wp2
    go_ret
    exact ⟨_, rfl, by rw [e2.out]; rfl, below_step hB0 hB⟩
  · have hne : (((digs (val l)).length : Int) == 0) = false := beq_eq_false_iff_ne.2 (by omega)
    have e2 := hs.out
    rw [if_neg (by omega)] at e2
    replace e2 := Lib.hid e2
    clear hdd
    go_enter Try.func14, Try.ntmps14
    go_wp2_with fail
    refine (rnorm_calls _ _ _ _ _ (h.alloc _) (by omega)).mono ?_
    rintro e w' ⟨A2, c2, rfl, hO, hB⟩
    have hZ2 := hZ0.below hB hZ0.lt
    have k0 := hZ2.cell0
    have k1 := hZ2.cell1
    generalize (digs (val l)).length = dl at *
    cases neg
    · go_wp2
      go_ret
      exact ⟨_, rfl, by rw [e2.out]; rfl, below_step hB0 hB⟩
    · go_wp2
      go_ret
      exact ⟨_, rfl, by rw [e2.out]; rfl, below_step hB0 hB⟩
end Go.Proofs.Ytdmahjbjlppeaaa

namespace Go.Proofs.Ytdmahjbjlppeaaa
open Go.RowKit

set_option maxHeartbeats 1000000 in
set_option maxRecDepth 8000 in
theorem r2of_pos (w : World) (u : Nat) (h1 : u < 9223372036854775808) : Calls Try.prog 46 #[.int .i64 u] w (RetZ u w) := by
  have hw1 : IntKind.u64.wrap (u : Int) = u := IntWalk.u64_in _ (by omega)
  have hd : decide ((u : Int) < 0) = false := by simp
  go_enter Try.func46, Try.ntmps46
  go_wp2_with fail
  have hm := rmade_calls _ false _ _ _ _ (lit_two w (.cells #[.bool false, .slice none 0 0] 24) u (by omega)) (by omega)
  rw [val_two] at hm
  rw [show zof false u = (u : Int) from rfl] at hm
  replace hm := Lib.hid hm
  refine hm.out.mono ?_
  rintro e w2 ⟨A2, c2, rfl, hO, hB⟩
  have hb := hB.size
  rw [size2] at hb
  obtain ⟨hZ, hB2⟩ := res1o hB
  have hf := hZ.frozen
  have h0 := hZ.cell0
  have h1 := hZ.cell1
  rw [size2] at hO
  clear hB hm hd
  go_wp2
  refine bodyPost_ret (ret_store rfl _ _ _ _ _ _ _ hZ rfl) rfl ?_
  exact RetZ.store hO hB2 (by omega) (by omega)
set_option maxHeartbeats 1000000 in
set_option maxRecDepth 8000 in
theorem r2of_neg (w : World) (u : Nat) (h0 : 0 < u) (h1 : u ≤ 9223372036854775808) : Calls Try.prog 46 #[.int .i64 (-(u : Int))] w (RetZ (-(u : Int)) w) := by
  have hw1 : IntKind.u64.wrap (-(u : Int)) = 18446744073709551616 - u := by rw [IntKind.wrap_u64]; omega
  have hw2 : IntKind.u64.wrap (-(18446744073709551616 - (u : Int))) = u := by rw [IntKind.wrap_u64]; omega
  have hd : decide (-(u : Int) < 0) = true := by simp; omega
  go_enter Try.func46, Try.ntmps46
  go_wp2_with fail
  have hm := rmade_calls _ true _ _ _ _ (lit_two w (.cells #[.bool false, .slice none 0 0] 24) u (by omega)) (by omega)
  rw [val_two] at hm
  rw [show zof true u = -(u : Int) from rfl] at hm
  replace hm := Lib.hid hm
  refine hm.out.mono ?_
  rintro e w2 ⟨A2, c2, rfl, hO, hB⟩
  have hdt := Lib.hid hd
  rw [hdt.out]
  have hb := hB.size
  rw [size2] at hb
  obtain ⟨hZ, hB2⟩ := res1o hB
  have hf := hZ.frozen
  have h0 := hZ.cell0
  have h1 := hZ.cell1
  rw [size2] at hO
  clear hB hm hd
  go_wp2
  refine bodyPost_ret (ret_store rfl _ _ _ _ _ _ _ hZ rfl) rfl ?_
  have hfin := RetZ.store (g := w.heap.size) hO hB2 (by omega) (by omega)
  have hna : (-(u : Int)).natAbs = u := by omega
  rw [hdt.out, hna] at hfin
  exact hfin

/-- ref02.Of is the number itself. -/
theorem r2of_calls (w : World) (z : Int) (h0 : -9223372036854775808 ≤ z) (h1 : z ≤ 9223372036854775807) : Calls Try.prog 46 #[.int .i64 z] w (RetZ z w) := by
  by_cases h : z < 0
  · obtain ⟨u, rfl⟩ : ∃ u : Nat, z = -(u : Int) := ⟨z.natAbs, by omega⟩
    exact r2of_neg w u (by omega) (by omega)
  · obtain ⟨u, rfl⟩ : ∃ u : Nat, z = (u : Int) := ⟨z.natAbs, by omega⟩
    exact r2of_pos w u (by omega)

theorem r2of_k {w : World} {x : Value} {z : Int} (hx : x = .int .i64 z) (h0 : -9223372036854775808 ≤ z) (h1 : z ≤ 9223372036854775807) : Calls Try.prog 46 #[x] w (Ret (.cz z) w) := by
  subst hx
  exact (r2of_calls w z h0 h1).mono fun _ _ h => h.c
end Go.Proofs.Ytdmahjbjlppeaaa

namespace Go.Proofs.Ytdmahjbjlppeaaa
open Go.RowKit

end Go.Proofs.Ytdmahjbjlppeaaa

namespace Go.Proofs.Ytdmahjbjlppeaaa
open Go.RowKit

/-- A slice in its one form. -/
structure Cn (w : World) (x : Value) (M : Nat) : Prop where
  ex : ∃ A c, x = .slice A (digs M).length c ∧ Sl w A (digs M).length c (digs M)
theorem Cn.mono {v v' : World} {x : Value} {M : Nat} (h : Cn v x M) (hM : Mono v v') : Cn v' x M := by
  obtain ⟨A, c, e, hS⟩ := h
  exact ⟨A, c, e, hM.sl _ _ _ _ hS⟩
theorem Cn.at {w : World} {x y : Value} {M : Nat} (h : Cn w x M) (e : y = x) : Cn w y M := e ▸ h
def Known.cn (M : Nat) : Known := ⟨fun w x => Cn w x M, fun _ _ _ h hM => h.mono hM⟩
theorem rnorm_cn {w : World} {x : Value} {a N : Nat} (h : Nz N w x a) (hN : N ≤ 35184372088832) : Calls Try.prog 45 #[x] w (Ret (.cn a) w) := by
  obtain ⟨A, n, c, l, rfl, hS, rfl, hn⟩ := h
  refine (rnorm_calls w A n c l hS (by omega)).mono fun _ _ h => ?_
  obtain ⟨A, c, rfl, hO, hB⟩ := h
  exact ⟨_, rfl, ⟨⟨A, c, rfl, hO.sl⟩⟩, hB⟩
end Go.Proofs.Ytdmahjbjlppeaaa
