
/- Numbers as limbs of 32 bits: the value of a list of limbs, the one list without noughts at its end, and how both go together. No program, no memory. How many binary digits; differences, products, quotients by one limb and shifts, limb by limb. Shifts, limb by limb. One digit of a quotient: guessed, taken away, given back. A quotient, digit by digit from the top. Roots. The reference's quotient, limb by limb from the top. Decimal digits. -/
import Derived.Lib.BitFns
namespace Go.Proofs.Ytdmahjbjlppeaaa

/-- The limbs are words of 32 bits. -/
def Lim (l : List Int) : Prop := ∀ x, x ∈ l → 0 ≤ x ∧ x < 4294967296
/-- The number that the limbs make. -/
def val : List Int → Nat
  | [] => 0
  | x :: xs => x.toNat + 4294967296 * val xs
/-- The limbs of a number, none of them a nought at the end. -/
def digs (n : Nat) : List Int := if h : n = 0 then [] else ((n % 4294967296 : Nat) : Int) :: digs (n / 4294967296)
termination_by n
decreasing_by omega

theorem digs_zero : digs 0 = [] := by rw [digs]; simp
theorem digs_pos {n : Nat} (h : 0 < n) : digs n = ((n % 4294967296 : Nat) : Int) :: digs (n / 4294967296) := by rw [digs, dif_neg (by omega)]

theorem Lim.nil : Lim [] := fun _ h => by simp at h
theorem Lim.cons {x : Int} {l : List Int} (h0 : 0 ≤ x) (h1 : x < 4294967296) (h : Lim l) : Lim (x :: l) := fun y hy => by
  rcases List.mem_cons.1 hy with rfl | hy
  · exact ⟨h0, h1⟩
  · exact h y hy
theorem Lim.head {x : Int} {l : List Int} (h : Lim (x :: l)) : 0 ≤ x ∧ x < 4294967296 := h x (by simp)
theorem Lim.tail {x : Int} {l : List Int} (h : Lim (x :: l)) : Lim l := fun y hy => h y (by simp [hy])
theorem Lim.append {a b : List Int} (ha : Lim a) (hb : Lim b) : Lim (a ++ b) := fun x hx => by
  rcases List.mem_append.1 hx with h | h
  · exact ha x h
  · exact hb x h
theorem Lim.left {a b : List Int} (h : Lim (a ++ b)) : Lim a := fun x hx => h x (by simp [hx])
theorem Lim.right {a b : List Int} (h : Lim (a ++ b)) : Lim b := fun x hx => h x (by simp [hx])
theorem Lim.take {a : List Int} (h : Lim a) (n : Nat) : Lim (a.take n) := fun x hx => h x (List.mem_of_mem_take hx)
theorem Lim.drop {a : List Int} (h : Lim a) (n : Nat) : Lim (a.drop n) := fun x hx => h x (List.mem_of_mem_drop hx)
theorem Lim.getD {a : List Int} (h : Lim a) (i : Nat) : 0 ≤ a.getD i 0 ∧ a.getD i 0 < 4294967296 := by
  by_cases hi : i < a.length
  · rw [List.getD_eq_getElem?_getD, List.getElem?_eq_getElem hi]
    exact h _ (by simp)
  · rw [List.getD_eq_getElem?_getD, List.getElem?_eq_none (by omega)]
    simp
theorem Lim.set {a : List Int} (h : Lim a) (i : Nat) {x : Int} (h0 : 0 ≤ x) (h1 : x < 4294967296) : Lim (a.set i x) := fun y hy => by
  rcases List.mem_or_eq_of_mem_set hy with hy | rfl
  · exact h y hy
  · exact ⟨h0, h1⟩
theorem Lim.replicate (n : Nat) : Lim (List.replicate n 0) := fun x hx => by
  obtain ⟨_, rfl⟩ := List.mem_replicate.1 hx
  omega
theorem Lim.one {x : Int} (h0 : 0 ≤ x) (h1 : x < 4294967296) : Lim [x] := Lim.cons h0 h1 Lim.nil

theorem digs_lim (n : Nat) : Lim (digs n) := by
  induction n using Nat.strongRecOn with
  | ind n ih =>
    by_cases h : n = 0
    · subst h; rw [digs_zero]; exact Lim.nil
    · rw [digs_pos (by omega)]
      exact Lim.cons (by omega) (by omega) (ih _ (by omega))
theorem val_digs (n : Nat) : val (digs n) = n := by
  induction n using Nat.strongRecOn with
  | ind n ih =>
    by_cases h : n = 0
    · subst h; rw [digs_zero]; rfl
    · rw [digs_pos (by omega), val, ih _ (by omega)]
      omega
theorem digs_nil_iff (n : Nat) : digs n = [] ↔ n = 0 := by
  constructor
  · intro h; have := val_digs n; rw [h] at this; exact this.symm
  · rintro rfl; exact digs_zero

theorem val_append (a b : List Int) : val (a ++ b) = val a + 4294967296 ^ a.length * val b := by
  induction a with
  | nil => simp [val]
  | cons x xs ih => simp only [List.cons_append, val, ih, List.length_cons, Nat.pow_succ]; grind
theorem val_lt {a : List Int} (h : Lim a) : val a < 4294967296 ^ a.length := by
  induction a with
  | nil => simp [val]
  | cons x xs ih =>
    have := ih h.tail
    have hx := h.head
    simp only [val, List.length_cons, Nat.pow_succ]
    have e : 4294967296 ^ xs.length * 4294967296 = 4294967296 * 4294967296 ^ xs.length := Nat.mul_comm _ _
    omega
theorem val_replicate (n : Nat) : val (List.replicate n 0) = 0 := by
  induction n with
  | zero => rfl
  | succ n ih => rw [List.replicate_succ, val, ih]; rfl
theorem val_one (x : Int) : val [x] = x.toNat := by simp [val]
theorem val_take_drop (a : List Int) (n : Nat) (h : n ≤ a.length) : val a = val (a.take n) + 4294967296 ^ n * val (a.drop n) := by
  have := val_append (a.take n) (a.drop n)
  rw [List.take_append_drop, List.length_take, Nat.min_eq_left h] at this
  exact this
theorem val_take_succ (a : List Int) (n : Nat) (h : n < a.length) : val (a.take (n + 1)) = val (a.take n) + 4294967296 ^ n * (a.getD n 0).toNat := by
  rw [List.take_succ_eq_append_getElem h, val_append, List.length_take, Nat.min_eq_left (by omega), val_one, List.getD_eq_getElem?_getD, List.getElem?_eq_getElem h]
  rfl
theorem val_drop_eq (a : List Int) (n : Nat) (h : n < a.length) : val (a.drop n) = (a.getD n 0).toNat + 4294967296 * val (a.drop (n + 1)) := by
  rw [List.drop_eq_getElem_cons h, val, List.getD_eq_getElem?_getD, List.getElem?_eq_getElem h]
  rfl
theorem val_drop_ge (a : List Int) (n : Nat) (h : a.length ≤ n) : val (a.drop n) = 0 := by
  rw [List.drop_eq_nil_of_le h]; rfl

/-- Without a nought at the end. -/
def Canon (l : List Int) : Prop := ∀ x, l.getLast? = some x → x ≠ 0
theorem digs_canon (n : Nat) : Canon (digs n) := by
  induction n using Nat.strongRecOn with
  | ind n ih =>
    by_cases h : n = 0
    · subst h; rw [digs_zero]; intro x hx; simp at hx
    · rw [digs_pos (by omega)]
      intro x hx
      by_cases h2 : n / 4294967296 = 0
      · rw [h2, digs_zero] at hx
        simp at hx
        omega
      · have := ih _ (by omega : n / 4294967296 < n)
        have hne : digs (n / 4294967296) ≠ [] := fun e => h2 ((digs_nil_iff _).1 e)
        rw [List.getLast?_cons, ] at hx
        apply this x
        cases hd : digs (n / 4294967296) with
        | nil => exact absurd hd hne
        | cons y ys => rw [hd] at hx; simp [List.getLast?_cons] at hx ⊢; exact hx
theorem val_pos_of_canon {l : List Int} (hl : Lim l) (hc : Canon l) (hne : l ≠ []) : 0 < val l := by
  obtain ⟨xs, x, rfl⟩ : ∃ xs x, l = xs ++ [x] := ⟨l.dropLast, l.getLast hne, (List.dropLast_concat_getLast hne).symm⟩
  have h1 : x ≠ 0 := hc x (by simp)
  have h2 := hl x (by simp)
  rw [val_append, val_one]
  have : 0 < 4294967296 ^ xs.length * x.toNat := Nat.mul_pos (Nat.pow_pos (by omega)) (by omega)
  omega
/-- A list of limbs without a nought at the end is just the limbs of its number. -/
theorem canon_digs : ∀ {l : List Int}, Lim l → Canon l → l = digs (val l)
  | [], _, _ => digs_zero.symm
  | x :: xs, hl, hc => by
    have hx := hl.head
    have hcx : Canon xs := fun y hy => hc y (by
      cases xs with
      | nil => simp at hy
      | cons z zs => simpa [List.getLast?_cons] using hy)
    have ih := canon_digs hl.tail hcx
    have hp := val_pos_of_canon hl hc (by simp)
    rw [digs_pos hp]
    simp only [val]
    have e1 : (x.toNat + 4294967296 * val xs) % 4294967296 = x.toNat := by omega
    have e2 : (x.toNat + 4294967296 * val xs) / 4294967296 = val xs := by omega
    rw [e1, e2, ← ih, Int.toNat_of_nonneg hx.1]
theorem canon_snoc {xs : List Int} {x : Int} (h : x ≠ 0) : Canon (xs ++ [x]) := fun y hy => by
  simp at hy; subst hy; exact h
theorem canon_nil : Canon [] := fun x hx => by simp at hx
theorem val_snoc_zero (xs : List Int) : val (xs ++ [0]) = val xs := by rw [val_append]; simp [val]

theorem digs_len_le {n k : Nat} (h : n < 4294967296 ^ k) : (digs n).length ≤ k := by
  induction k generalizing n with
  | zero => have : n = 0 := by simpa using h
            subst this; rw [digs_zero]; simp
  | succ k ih =>
    by_cases hn : n = 0
    · subst hn; rw [digs_zero]; simp
    · rw [digs_pos (by omega), List.length_cons]
      have : n / 4294967296 < 4294967296 ^ k := by
        rw [Nat.pow_succ] at h
        exact Nat.div_lt_of_lt_mul (by rw [Nat.mul_comm]; exact h)
      have := ih this
      omega
theorem digs_val_len {l : List Int} (h : Lim l) : (digs (val l)).length ≤ l.length := digs_len_le (val_lt h)
theorem digs_len_mono {m n : Nat} (h : m ≤ n) : (digs m).length ≤ (digs n).length :=
  digs_len_le (Nat.lt_of_le_of_lt h (by have := val_lt (digs_lim n); rwa [val_digs] at this))
theorem digs_lt_pow (n : Nat) : n < 4294967296 ^ (digs n).length := by have := val_lt (digs_lim n); rwa [val_digs] at this
theorem pow_le_of_canon {l : List Int} (hl : Lim l) (hc : Canon l) (hne : l ≠ []) : 4294967296 ^ (l.length - 1) ≤ val l := by
  obtain ⟨xs, x, rfl⟩ : ∃ xs x, l = xs ++ [x] := ⟨l.dropLast, l.getLast hne, (List.dropLast_concat_getLast hne).symm⟩
  have h1 : x ≠ 0 := hc x (by simp)
  have h2 := hl x (by simp)
  rw [val_append, val_one, List.length_append, List.length_singleton, Nat.add_sub_cancel]
  have : 4294967296 ^ xs.length * 1 ≤ 4294967296 ^ xs.length * x.toNat := Nat.mul_le_mul_left _ (by omega)
  omega
theorem pow_le_digs {n : Nat} (h : 0 < n) : 4294967296 ^ ((digs n).length - 1) ≤ n := by
  have := pow_le_of_canon (digs_lim n) (digs_canon n) (fun e => by rw [digs_nil_iff] at e; omega)
  rwa [val_digs] at this
theorem digs_inj {m n : Nat} (h : digs m = digs n) : m = n := by rw [← val_digs m, h, val_digs]
theorem digs_len_lt_iff {n k : Nat} : (digs n).length ≤ k ↔ n < 4294967296 ^ k := by
  constructor
  · intro h
    exact Nat.lt_of_lt_of_le (digs_lt_pow n) (Nat.pow_le_pow_right (by omega) h)
  · exact digs_len_le

/-- The list without the noughts at its end. -/
def strip : List Int → List Int
  | [] => []
  | x :: xs => match strip xs with
    | [] => if x = 0 then [] else [x]
    | y :: ys => x :: y :: ys
theorem strip_digs : ∀ {l : List Int}, Lim l → strip l = digs (val l)
  | [], _ => digs_zero.symm
  | x :: xs, h => by
    have ih := strip_digs h.tail
    have hx := h.head
    simp only [strip, val]
    cases hs : strip xs with
    | nil =>
      rw [hs] at ih
      have h0 : val xs = 0 := (digs_nil_iff _).1 ih.symm
      rw [h0]
      by_cases hx0 : x = 0
      · subst hx0; simp [digs_zero]
      · rw [if_neg hx0, digs_pos (by omega)]
        have e1 : (x.toNat + 4294967296 * 0) % 4294967296 = x.toNat := by omega
        have e2 : (x.toNat + 4294967296 * 0) / 4294967296 = 0 := by omega
        rw [e1, e2, digs_zero, Int.toNat_of_nonneg hx.1]
    | cons y ys =>
      rw [hs] at ih
      have h0 : val xs ≠ 0 := fun e => by rw [e, digs_zero] at ih; simp at ih
      rw [digs_pos (by omega)]
      have e1 : (x.toNat + 4294967296 * val xs) % 4294967296 = x.toNat := by omega
      have e2 : (x.toNat + 4294967296 * val xs) / 4294967296 = val xs := by omega
      rw [e1, e2, ← ih, Int.toNat_of_nonneg hx.1]

theorem val_take_succ' (a : List Int) (n : Nat) : val (a.take (n + 1)) = val (a.take n) + 4294967296 ^ n * (a.getD n 0).toNat := by
  by_cases h : n < a.length
  · exact val_take_succ a n h
  · rw [List.take_of_length_le (by omega), List.take_of_length_le (by omega), List.getD_eq_getElem?_getD, List.getElem?_eq_none (by omega)]; simp
theorem val_set_take (o : List Int) (k : Nat) (x : Int) (h : k < o.length) : val ((o.set k x).take (k + 1)) = val (o.take k) + 4294967296 ^ k * x.toNat := by
  rw [val_take_succ _ _ (by simpa using h)]
  congr 2
  · rw [List.take_set_of_le (Nat.le_refl _)]
  · simp [List.getD_eq_getElem?_getD, h]
theorem getD_set_same (o : List Int) (k : Nat) (x : Int) (h : k < o.length) : (o.set k x).getD k 0 = x := by simp [List.getD_eq_getElem?_getD, h]
theorem getD_set_ne (o : List Int) (k j : Nat) (x : Int) (h : k ≠ j) : (o.set k x).getD j 0 = o.getD j 0 := by simp [List.getD_eq_getElem?_getD, List.getElem?_set_ne h]

theorem val_lt_of_top {X Y : List Int} (hX : Lim X) (i : Nat) (hxl : i < X.length) (hyl : i < Y.length) (hY : Lim Y) (he : val (X.drop (i + 1)) = val (Y.drop (i + 1))) (hlt : X.getD i 0 < Y.getD i 0) : val X < val Y := by
  have e1 := val_take_drop X i (by omega)
  have e2 := val_take_drop Y i (by omega)
  have d1 := val_drop_eq X i hxl
  have d2 := val_drop_eq Y i hyl
  have t1 := val_lt (hX.take i)
  rw [List.length_take, Nat.min_eq_left (by omega)] at t1
  have hx := hX.getD i
  have hy := hY.getD i
  have hd : val (X.drop i) + 1 ≤ val (Y.drop i) := by omega
  have hm := Nat.mul_le_mul_left (4294967296 ^ i) hd
  rw [Nat.mul_add, Nat.mul_one] at hm
  omega
def cmpN (a b : Nat) : Int := if a < b then -1 else if a = b then 0 else 1
theorem cmpN_lt {a b : Nat} (h : a < b) : cmpN a b = -1 := by simp [cmpN, h]
theorem cmpN_gt {a b : Nat} (h : b < a) : cmpN a b = 1 := by simp [cmpN]; omega
theorem cmpN_eq (a : Nat) : cmpN a a = 0 := by simp [cmpN]
theorem lt_of_digs_len {a b : Nat} (h : (digs a).length < (digs b).length) : a < b := by
  rcases Nat.lt_or_ge a b with h1 | h1
  · exact h1
  · have := digs_len_mono h1; omega
end Go.Proofs.Ytdmahjbjlppeaaa

namespace Go.Proofs.Ytdmahjbjlppeaaa

def blen (n : Nat) : Nat := if n = 0 then 0 else n.log2 + 1
theorem blen_zero : blen 0 = 0 := rfl
theorem blen_unique {n m : Nat} (h1 : 2 ^ m ≤ n) (h2 : n < 2 ^ (m + 1)) : blen n = m + 1 := by
  have h0 : n ≠ 0 := by have := Nat.pow_pos (n := m) (show 0 < 2 by omega); omega
  unfold blen
  rw [if_neg h0]
  have a1 := (Nat.le_log2 h0).2 h1
  have a2 := (Nat.log2_lt h0).2 h2
  omega
theorem blen_lt (n : Nat) : n < 2 ^ blen n := by
  unfold blen
  split
  · subst_vars; simp
  · exact Nat.lt_log2_self
theorem blen_le {n : Nat} (h : 0 < n) : 2 ^ (blen n - 1) ≤ n := by
  unfold blen
  rw [if_neg (by omega), Nat.add_sub_cancel]
  exact Nat.log2_self_le (by omega)
theorem blen_pos {n : Nat} (h : 0 < n) : 0 < blen n := by unfold blen; rw [if_neg (by omega)]; omega
theorem blen_eq_zero {n : Nat} : blen n = 0 ↔ n = 0 := by
  constructor
  · intro h; rcases Nat.eq_zero_or_pos n with h0 | h0
    · exact h0
    · have := blen_pos h0; omega
  · rintro rfl; rfl
theorem blen_le_iff {n k : Nat} : blen n ≤ k ↔ n < 2 ^ k := by
  constructor
  · intro h; exact Nat.lt_of_lt_of_le (blen_lt n) (Nat.pow_le_pow_right (by omega) h)
  · intro h
    rcases Nat.eq_zero_or_pos n with h0 | h0
    · subst h0; rw [blen_zero]; omega
    · have h1 := blen_le h0
      rcases Nat.lt_or_ge k (blen n) with h2 | h2
      · have := Nat.pow_le_pow_right (show 0 < 2 by omega) (show k ≤ blen n - 1 by omega)
        omega
      · exact h2
theorem blen_add_pow {t x k : Nat} (ht : t < 2 ^ k) (hx : 0 < x) : blen (t + 2 ^ k * x) = k + blen x := by
  have h1 := blen_le hx
  have h2 := blen_lt x
  have h3 := blen_pos hx
  obtain ⟨m, hm⟩ : ∃ m, blen x = m + 1 := ⟨blen x - 1, by omega⟩
  rw [hm] at h1 h2
  rw [Nat.add_sub_cancel] at h1
  rw [hm, ← Nat.add_assoc]
  refine blen_unique ?_ ?_
  · rw [Nat.pow_add]
    exact Nat.le_trans (Nat.mul_le_mul_left _ h1) (by omega)
  · rw [Nat.add_assoc, Nat.pow_add]
    have : 2 ^ k * (x + 1) ≤ 2 ^ k * 2 ^ (m + 1) := Nat.mul_le_mul_left _ h2
    rw [Nat.mul_add, Nat.mul_one] at this
    omega
theorem pow_B (k : Nat) : 4294967296 ^ k = 2 ^ (32 * k) := by
  rw [Nat.pow_mul]
theorem blen_half {x : Nat} (h : x ≠ 0) : blen x = 1 + blen (x / 2) := by
  rcases Nat.eq_zero_or_pos (x / 2) with h2 | h2
  · have : x = 1 := by omega
    subst this
    rfl
  · have := blen_add_pow (t := x % 2) (x := x / 2) (k := 1) (by omega) h2
    rw [Nat.pow_one, Nat.mod_add_div] at this
    exact this
theorem bitLen_blen (x : Nat) (h : x < 2 ^ 64) : Lib.bitLen x = blen x := by
  induction x using Nat.strongRecOn with
  | ind x ih =>
    rcases Nat.eq_zero_or_pos x with h0 | h0
    · subst h0; rfl
    · rw [Lib.bitLen_half x (by omega) h, blen_half (by omega), ih (x / 2) (by omega) (by omega)]
theorem blen_top {l : List Int} (hl : Lim l) {n : Nat} (hn : l.length = n + 1) (ht : l.getD n 0 ≠ 0) : blen (val l) = 32 * n + blen (l.getD n 0).toNat := by
  have e := val_take_drop l n (by omega)
  have d := val_drop_eq l n (by omega)
  rw [val_drop_ge l (n + 1) (by omega)] at d
  have t := val_lt (hl.take n)
  rw [List.length_take, Nat.min_eq_left (by omega), pow_B] at t
  have hx := hl.getD n
  rw [e, d, Nat.mul_zero, Nat.add_zero, pow_B]
  exact blen_add_pow t (by omega)
theorem top_ne_zero {N n : Nat} (hn : (digs N).length = n + 1) : (digs N).getD n 0 ≠ 0 := by
  have hc := digs_canon N
  have : (digs N).getLast? = some ((digs N).getD n 0) := by
    rw [List.getLast?_eq_getElem?, hn, Nat.add_sub_cancel, List.getD_eq_getElem?_getD, List.getElem?_eq_getElem (by omega)]
    rfl
  exact hc _ this

/-- After k rounds: the sum's lower limbs and the carry. -/
structure AddInv (X Y o : List Int) (k : Nat) (c : Int) : Prop where
  c0 : 0 ≤ c
  c1 : c ≤ 1
  eq : val (o.take k) + 4294967296 ^ k * c.toNat = val (X.take k) + val (Y.take k)
theorem AddInv.step {X Y o : List Int} {k : Nat} {c : Int} (h : AddInv X Y o k c) (hX : Lim X) (hY : Lim Y) (hk : k < o.length) :
    AddInv X Y (o.set k ((c + X.getD k 0 + Y.getD k 0) % 4294967296)) (k + 1) ((c + X.getD k 0 + Y.getD k 0) / 4294967296) := by
  have hx := hX.getD k
  have hy := hY.getD k
  have h0 := h.c0
  have h1 := h.c1
  refine ⟨by omega, by omega, ?_⟩
  rw [val_set_take _ _ _ hk, val_take_succ' X, val_take_succ' Y, Nat.pow_succ]
  have e := h.eq
  generalize X.getD k 0 = x at *
  generalize Y.getD k 0 = y at *
  have hs : ((c + x + y) % 4294967296).toNat + 4294967296 * ((c + x + y) / 4294967296).toNat = c.toNat + x.toNat + y.toNat := by omega
  generalize ((c + x + y) % 4294967296).toNat = p at *
  generalize ((c + x + y) / 4294967296).toNat = q at *
  generalize 4294967296 ^ k = B at *
  have : B * (p + 4294967296 * q) = B * (c.toNat + x.toNat + y.toNat) := by rw [hs]
  grind
theorem AddInv.last {X Y o : List Int} {n : Nat} {c : Int} (h : AddInv X Y o n c) (ho : o.length = n + 1) (hX : X.length = n) (hY : Y.length ≤ n) : val (o.set n c) = val X + val Y := by
  have e := h.eq
  have := val_set_take o n c (by omega)
  rw [List.take_of_length_le (by simp; omega)] at this
  rw [List.take_of_length_le (l := X) (by omega), List.take_of_length_le (l := Y) hY] at e
  omega

/-- After k rounds of a difference. -/
structure LessInv (X Y o : List Int) (k : Nat) (b : Int) : Prop where
  b0 : 0 ≤ b
  b1 : b ≤ 1
  eq : val (X.take k) + 4294967296 ^ k * b.toNat = val (o.take k) + val (Y.take k)
theorem LessInv.step {X Y o : List Int} {k : Nat} {b : Int} (h : LessInv X Y o k b) (hX : Lim X) (hY : Lim Y) (hk : k < o.length) :
    LessInv X Y (o.set k ((X.getD k 0 - b - Y.getD k 0) % 4294967296)) (k + 1) (if X.getD k 0 - b - Y.getD k 0 < 0 then 1 else 0) := by
  have hx := hX.getD k
  have hy := hY.getD k
  have h0 := h.b0
  have h1 := h.b1
  refine ⟨by split <;> omega, by split <;> omega, ?_⟩
  rw [val_set_take _ _ _ hk, val_take_succ' X, val_take_succ' Y, Nat.pow_succ]
  have e := h.eq
  generalize X.getD k 0 = x at *
  generalize Y.getD k 0 = y at *
  have hs : x.toNat + 4294967296 * (if x - b - y < 0 then (1 : Int) else 0).toNat = ((x - b - y) % 4294967296).toNat + b.toNat + y.toNat := by split <;> omega
  generalize ((x - b - y) % 4294967296).toNat = p at *
  generalize (if x - b - y < 0 then (1 : Int) else 0).toNat = q at *
  generalize 4294967296 ^ k = B at *
  have : B * (x.toNat + 4294967296 * q) = B * (p + b.toNat + y.toNat) := by rw [hs]
  grind
theorem LessInv.last {X Y o : List Int} {n : Nat} {b : Int} (h : LessInv X Y o n b) (ho : o.length = n) (hX : X.length = n) (hY : Y.length ≤ n) (hlo : Lim o) (hle : val Y ≤ val X) : val o = val X - val Y := by
  have e := h.eq
  rw [List.take_of_length_le (l := X) (by omega), List.take_of_length_le (l := Y) hY, List.take_of_length_le (l := o) (by omega)] at e
  have h2 := val_lt hlo
  rw [ho] at h2
  have h0 := h.b0
  have h1 := h.b1
  rcases Nat.eq_zero_or_pos b.toNat with hb | hb
  · rw [hb] at e; omega
  · have : b.toNat = 1 := by omega
    rw [this] at e; omega

theorem val_set {l : List Int} {k : Nat} {x : Int} (h : k < l.length) : val (l.set k x) + 4294967296 ^ k * (l.getD k 0).toNat = val l + 4294967296 ^ k * x.toNat := by
  have e1 := val_take_drop l k (by omega)
  have e2 := val_take_drop (l.set k x) k (by simp; omega)
  rw [val_drop_eq _ _ h] at e1
  rw [val_drop_eq _ _ (by simpa using h), getD_set_same _ _ _ h, List.take_set_of_le (Nat.le_refl _), List.drop_set_of_lt (by omega)] at e2
  rw [Nat.mul_add] at e1 e2
  omega
theorem mul_lim {x y : Int} (hx : 0 ≤ x ∧ x < 4294967296) (hy : 0 ≤ y ∧ y < 4294967296) : 0 ≤ x * y ∧ x * y ≤ 18446744065119617025 := by
  have h1 := Int.mul_nonneg hx.1 hy.1
  have h2 : x * y ≤ 4294967295 * 4294967295 := Int.mul_le_mul (by omega) (by omega) hy.1 (by omega)
  omega
/-- A product after j rounds within round i. -/
structure MulInv (X Y o : List Int) (i j : Nat) (c : Int) : Prop where
  c0 : 0 ≤ c
  c1 : c < 4294967296
  eq : val (o.take (i + Y.length)) + 4294967296 ^ (i + j) * c.toNat = val (X.take i) * val Y + 4294967296 ^ i * ((X.getD i 0).toNat * val (Y.take j))
theorem MulInv.start {X Y o : List Int} {i : Nat} (h : val (o.take (i + Y.length)) = val (X.take i) * val Y) : MulInv X Y o i 0 0 := ⟨by omega, by omega, by simp [h, val]⟩
theorem MulInv.step {X Y o : List Int} {i j : Nat} {c : Int} (h : MulInv X Y o i j c) (hX : Lim X) (hY : Lim Y) (ho : Lim o) (hj : j < Y.length) (hk : i + Y.length ≤ o.length) :
    MulInv X Y (o.set (i + j) ((c + (X.getD i 0 * Y.getD j 0 + o.getD (i + j) 0)) % 4294967296)) i (j + 1) ((c + (X.getD i 0 * Y.getD j 0 + o.getD (i + j) 0)) / 4294967296) := by
  have hx := hX.getD i
  have hy := hY.getD j
  have hok := ho.getD (i + j)
  have hp := mul_lim hx hy
  have h0 := h.c0
  have h1 := h.c1
  refine ⟨by omega, by omega, ?_⟩
  have e := h.eq
  have hs := val_set (l := o.take (i + Y.length)) (k := i + j) (x := (c + (X.getD i 0 * Y.getD j 0 + o.getD (i + j) 0)) % 4294967296) (by simp; omega)
  rw [← List.take_set, show (o.take (i + Y.length)).getD (i + j) 0 = o.getD (i + j) 0 by rw [List.getD_eq_getElem?_getD, List.getD_eq_getElem?_getD, List.getElem?_take, if_pos (by omega)]] at hs
  rw [val_take_succ' Y, show i + (j + 1) = (i + j) + 1 by omega, Nat.pow_succ]
  have hm : (X.getD i 0 * Y.getD j 0).toNat = (X.getD i 0).toNat * (Y.getD j 0).toNat := Int.toNat_mul hx.1 hy.1
  generalize hP : X.getD i 0 * Y.getD j 0 = p at *
  generalize (X.getD i 0).toNat = x at *
  generalize (Y.getD j 0).toNat = y at *
  generalize o.getD (i + j) 0 = q at *
  have hq : ((c + (p + q)) % 4294967296).toNat + 4294967296 * ((c + (p + q)) / 4294967296).toNat = c.toNat + x * y + q.toNat := by omega
  generalize ((c + (p + q)) % 4294967296).toNat = r at *
  generalize ((c + (p + q)) / 4294967296).toNat = t at *
  have h3 : 4294967296 ^ (i + j) * (r + 4294967296 * t) = 4294967296 ^ (i + j) * (c.toNat + x * y + q.toNat) := by rw [hq]
  have h4 : 4294967296 ^ (i + j) = 4294967296 ^ i * 4294967296 ^ j := Nat.pow_add ..
  grind
theorem MulInv.last {X Y o : List Int} {i : Nat} {c : Int} (h : MulInv X Y o i Y.length c) (hk : i + Y.length < o.length) : val ((o.set (i + Y.length) c).take (i + 1 + Y.length)) = val (X.take (i + 1)) * val Y := by
  have e := h.eq
  rw [show i + 1 + Y.length = i + Y.length + 1 by omega, val_set_take _ _ _ hk, val_take_succ' X, e, List.take_length, Nat.add_mul, Nat.mul_assoc]

/-- A quotient by one limb, down to place i. -/
structure ShortInv (X o : List Int) (d : Int) (i : Nat) (r : Int) : Prop where
  r0 : 0 ≤ r
  r1 : r < d
  eq : val (X.drop i) = d.toNat * val (o.drop i) + r.toNat
theorem val_drop_set {o : List Int} {i : Nat} {x : Int} (h : i < o.length) : val ((o.set i x).drop i) = x.toNat + 4294967296 * val (o.drop (i + 1)) := by
  rw [val_drop_eq _ _ (by simpa using h), getD_set_same _ _ _ h, List.drop_set_of_lt (by omega)]
theorem div_lt_B {r x d : Int} (h0 : 0 ≤ r) (h1 : r < d) (hx : 0 ≤ x ∧ x < 4294967296) : 0 ≤ (r * 4294967296 + x) / d ∧ (r * 4294967296 + x) / d < 4294967296 := by
  refine ⟨Int.ediv_nonneg (by omega) (by omega), Int.ediv_lt_of_lt_mul (by omega) ?_⟩
  have : (r + 1) * 4294967296 ≤ d * 4294967296 := Int.mul_le_mul_of_nonneg_right (by omega) (by omega)
  omega
theorem ShortInv.step {X o : List Int} {d : Int} {i : Nat} {r : Int} (h : ShortInv X o d (i + 1) r) (hX : Lim X) (hi : i < o.length) (hiX : i < X.length) :
    ShortInv X (o.set i ((r * 4294967296 + X.getD i 0) / d)) d i ((r * 4294967296 + X.getD i 0) % d) := by
  have hx := hX.getD i
  have h0 := h.r0
  have h1 := h.r1
  have hq := div_lt_B h0 h1 hx
  refine ⟨Int.emod_nonneg _ (by omega), Int.emod_lt_of_pos _ (by omega), ?_⟩
  rw [val_drop_set hi, val_drop_eq _ _ hiX, h.eq]
  have e := Int.mul_ediv_add_emod (r * 4294967296 + X.getD i 0) d
  have hm0 := Int.emod_nonneg (r * 4294967296 + X.getD i 0) (show d ≠ 0 by omega)
  generalize X.getD i 0 = x at *
  generalize (r * 4294967296 + x) / d = q at *
  generalize (r * 4294967296 + x) % d = m at *
  generalize val (List.drop (i + 1) o) = V at *
  have e2 : d.toNat * q.toNat + m.toNat = r.toNat * 4294967296 + x.toNat := by
    have hP : ((d.toNat * q.toNat : Nat) : Int) = d * q := by rw [Int.natCast_mul, Int.toNat_of_nonneg (by omega), Int.toNat_of_nonneg hq.1]
    generalize d.toNat * q.toNat = P at *
    generalize d * q = Q at *
    omega
  grind
theorem ShortInv.start {X o : List Int} {d : Int} (hd : 0 < d) (hl : X.length = o.length) : ShortInv X o d X.length 0 := ⟨by omega, hd, by rw [val_drop_ge _ _ (Nat.le_refl _), val_drop_ge _ _ (by omega)]; rfl⟩
theorem ShortInv.last {X o : List Int} {d r : Int} (h : ShortInv X o d 0 r) : val o = val X / d.toNat ∧ r = ((val X % d.toNat : Nat) : Int) := by
  have e := h.eq
  have h0 := h.r0
  have h1 := h.r1
  simp only [List.drop_zero] at e
  rw [e, Nat.mul_add_div (by omega), Nat.div_eq_of_lt (by omega), Nat.mul_add_mod, Nat.mod_eq_of_lt (by omega)]
  omega
end Go.Proofs.Ytdmahjbjlppeaaa

namespace Go.Proofs.Ytdmahjbjlppeaaa

/-- P is a power of two below 2^32, M its complement. -/
structure Two32 (s : Nat) (P M : Int) : Prop where
  hs : s ≤ 31
  p : P = ((2 ^ s : Nat) : Int)
  m : M = ((2 ^ (32 - s) : Nat) : Int)
theorem Two32.mk' {s : Nat} (hs : s ≤ 31) : Two32 s ((2 ^ s : Nat) : Int) ((2 ^ (32 - s) : Nat) : Int) := ⟨hs, rfl, rfl⟩
theorem pow_split {s : Nat} (hs : s ≤ 31) : 2 ^ s * 2 ^ (32 - s) = 4294967296 := by rw [← Nat.pow_add, show s + (32 - s) = 32 by omega]
theorem Two32.pm {s : Nat} {P M : Int} (h : Two32 s P M) : P * M = 4294967296 ∧ 1 ≤ P ∧ P ≤ 2147483648 ∧ 2 ≤ M := by
  have h1 := pow_split h.hs
  have h2 : 2 ^ s ≤ 2 ^ 31 := Nat.pow_le_pow_right (by omega) h.hs
  have h3 : 2 ^ 1 ≤ 2 ^ (32 - s) := Nat.pow_le_pow_right (by omega) (by have := h.hs; omega)
  have h4 : 0 < 2 ^ s := Nat.pow_pos (by omega)
  have hp := h.p
  have hm := h.m
  refine ⟨?_, by omega, by omega, by omega⟩
  rw [hp, hm, ← Int.natCast_mul, h1]
  rfl
/-- What one limb becomes: its lower part, and what goes on. -/
theorem shl_limb {s : Nat} {P M x h : Int} (hP : Two32 s P M) (hx : 0 ≤ x ∧ x < 4294967296) (h0 : 0 ≤ h) (h1 : h < P) :
    0 ≤ x * P ∧ x * P < 9223372036854775808 ∧ (x * P % 4294967296).toNat % 2 ^ s = 0 ∧ 0 ≤ h + x * P % 4294967296 ∧ h + x * P % 4294967296 < 4294967296 ∧ 0 ≤ x * P / 4294967296 ∧ x * P / 4294967296 < P := by
  obtain ⟨e, p1, p2, m2⟩ := hP.pm
  have v0 : 0 ≤ x * P := Int.mul_nonneg hx.1 (by omega)
  have v1 : x * P ≤ 4294967295 * P := Int.mul_le_mul_of_nonneg_right (by omega) (by omega)
  have e1 : x * P % 4294967296 = P * (x % M) := by rw [← e, Int.mul_comm x P, Int.mul_emod_mul_of_pos _ _ (by omega)]
  have e2 : x * P / 4294967296 = x / M := by rw [← e, Int.mul_comm x P, Int.mul_ediv_mul_of_pos _ _ (by omega)]
  have m0 := Int.emod_nonneg x (show M ≠ 0 by omega)
  have m1 := Int.emod_lt_of_pos x (show 0 < M by omega)
  have l0 : 0 ≤ P * (x % M) := Int.mul_nonneg (by omega) m0
  have l1 : P * (x % M) ≤ P * (M - 1) := Int.mul_le_mul_of_nonneg_left (by omega) (by omega)
  rw [Int.mul_sub, e, Int.mul_one] at l1
  refine ⟨v0, by omega, ?_, by omega, by omega, ?_, ?_⟩
  · rw [e1, Int.toNat_mul (by omega) m0, hP.p, Int.toNat_natCast, Nat.mul_mod_right]
  · rw [e2]; exact Int.ediv_nonneg hx.1 (by omega)
  · rw [e2]
    refine Int.ediv_lt_of_lt_mul (by omega) ?_
    rw [e]; exact hx.2

structure ShlInv (X o : List Int) (w s : Nat) (i : Nat) : Prop where
  top : (o.getD (i + w) 0).toNat < 2 ^ s
  eq : val (o.take (i + w + 1)) = val (X.take i) * (2 ^ s * 4294967296 ^ w)
theorem ShlInv.start (X : List Int) (w s n : Nat) : ShlInv X (List.replicate n 0) w s 0 := by
  refine ⟨?_, ?_⟩
  · rw [List.getD_eq_getElem?_getD, List.getElem?_replicate]
    have := Nat.pow_pos (n := s) (show 0 < 2 by omega)
    split <;> simpa
  · rw [List.take_replicate, val_replicate]; simp [val]
theorem ShlInv.step {X o : List Int} {w s i : Nat} {P M : Int} (h : ShlInv X o w s i) (hP : Two32 s P M) (hX : Lim X) (ho : Lim o) (hi : i + w + 1 < o.length) :
    ShlInv X ((o.set (i + w) (o.getD (i + w) 0 + X.getD i 0 * P % 4294967296)).set (i + w + 1) (X.getD i 0 * P / 4294967296)) w s (i + 1) := by
  have hx := hX.getD i
  have hh := ho.getD (i + w)
  have ht := h.top
  have hpp := hP.p
  obtain ⟨a1, a2, a3, a4, a5, a6, a7⟩ := shl_limb hP hx hh.1 (by omega)
  refine ⟨?_, ?_⟩
  · rw [show i + 1 + w = i + w + 1 by omega, getD_set_same _ _ _ (by simpa using hi)]
    omega
  · have e := h.eq
    have c1 := val_set_take (o.set (i + w) (o.getD (i + w) 0 + X.getD i 0 * P % 4294967296)) (i + w + 1) (X.getD i 0 * P / 4294967296) (by simpa using hi)
    have c2 := val_set_take o (i + w) (o.getD (i + w) 0 + X.getD i 0 * P % 4294967296) (by omega)
    have c3 := val_take_succ' o (i + w)
    rw [show i + 1 + w + 1 = i + w + 1 + 1 by omega, c1, c2, val_take_succ' X, Nat.pow_succ]
    have hv : (X.getD i 0 * P).toNat = (X.getD i 0).toNat * 2 ^ s := by rw [Int.toNat_mul hx.1 (by omega), hpp, Int.toNat_natCast]
    rw [c3] at e
    rw [Nat.pow_add] at *
    generalize X.getD i 0 * P = v at *
    have hv2 : (o.getD (i + w) 0 + v % 4294967296).toNat + 4294967296 * (v / 4294967296).toNat = (o.getD (i + w) 0).toNat + (X.getD i 0).toNat * 2 ^ s := by omega
    generalize (o.getD (i + w) 0 + v % 4294967296).toNat = p at *
    generalize (v / 4294967296).toNat = q at *
    generalize (o.getD (i + w) 0).toNat = r at *
    generalize (X.getD i 0).toNat = x at *
    generalize 2 ^ s = T at *
    generalize 4294967296 ^ i = Bi at *
    generalize 4294967296 ^ w = Bw at *
    have : Bi * Bw * (p + 4294967296 * q) = Bi * Bw * (r + x * T) := by rw [hv2]
    grind
theorem pow_shift (n : Nat) : 2 ^ (n % 32) * 4294967296 ^ (n / 32) = 2 ^ n := by
  rw [pow_B, ← Nat.pow_add, Nat.mod_add_div]
theorem ShlInv.last {X o : List Int} {n : Nat} (h : ShlInv X o (n / 32) (n % 32) X.length) (ho : o.length = X.length + n / 32 + 1) : val o = val X * 2 ^ n := by
  have e := h.eq
  rw [List.take_of_length_le (by omega), List.take_length, pow_shift] at e
  exact e

theorem shr_limb {x x' s D : Nat} (hs : s ≤ 31) : (x + 4294967296 * x' + 4294967296 * 4294967296 * D) / 2 ^ s % 4294967296 = (x + 4294967296 * x') / 2 ^ s % 4294967296 := by
  have e := pow_split hs
  have : 4294967296 * 4294967296 * D = 2 ^ s * (4294967296 * (2 ^ (32 - s) * D)) := by
    rw [show 4294967296 * 4294967296 * D = (2 ^ s * 2 ^ (32 - s)) * 4294967296 * D by rw [e]]
    grind
  rw [this, Nat.add_mul_div_left _ _ (Nat.pow_pos (by omega)), Nat.add_mul_mod_self_left]
theorem val_drop_div (X : List Int) (hX : Lim X) (w : Nat) (hw : w ≤ X.length) : val X / 4294967296 ^ w = val (X.drop w) := by
  have e := val_take_drop X w hw
  have t := val_lt (hX.take w)
  rw [List.length_take, Nat.min_eq_left hw] at t
  rw [e, Nat.add_mul_div_left _ _ (Nat.pow_pos (by omega)), Nat.div_eq_of_lt t, Nat.zero_add]
structure ShrInv (X o : List Int) (w s i : Nat) : Prop where
  eq : val (o.take i) = val (X.drop w) / 2 ^ s % 4294967296 ^ i
theorem ShrInv.start (X o : List Int) (w s : Nat) : ShrInv X o w s 0 := ⟨by simp [val, Nat.mod_one]⟩
theorem ShrInv.step {X o : List Int} {w s i : Nat} (h : ShrInv X o w s i) (hs : s ≤ 31) (hX : Lim X) (hi : i < o.length) (hw : i + w < X.length) :
    ShrInv X (o.set i ((((X.getD (i + w) 0).toNat + 4294967296 * (X.getD (i + w + 1) 0).toNat) / 2 ^ s % 4294967296 : Nat) : Int)) w s (i + 1) := by
  refine ⟨?_⟩
  rw [val_set_take _ _ _ hi, h.eq, Int.toNat_natCast, Nat.pow_succ, Nat.mod_mul, Nat.div_div_eq_div_mul, Nat.mul_comm (2 ^ s), ← Nat.div_div_eq_div_mul]
  have hX' := hX.drop w
  rw [val_drop_div (X.drop w) hX' i (by simp; omega), List.drop_drop]
  congr 2
  have d1 := val_drop_eq X (w + i) (by omega)
  have d2 : val (X.drop (w + i + 1)) = (X.getD (w + i + 1) 0).toNat + 4294967296 * val (X.drop (w + i + 2)) := by
    by_cases hh : w + i + 1 < X.length
    · exact val_drop_eq X (w + i + 1) hh
    · rw [val_drop_ge _ _ (by omega), val_drop_ge _ _ (by omega), List.getD_eq_getElem?_getD, List.getElem?_eq_none (by omega)]; rfl
  rw [d1, d2, Nat.mul_add, ← Nat.add_assoc, ← Nat.mul_assoc, shr_limb hs, Nat.add_comm i w]
theorem ShrInv.last {X o : List Int} {n : Nat} (h : ShrInv X o (n / 32) (n % 32) o.length) (hX : Lim X) (ho : o.length = X.length - n / 32) (hw : n / 32 ≤ X.length) : val o = val X / 2 ^ n := by
  have e := h.eq
  have t := val_lt (hX.drop (n / 32))
  rw [List.length_drop, ← ho] at t
  rw [List.take_length, Nat.mod_eq_of_lt (Nat.lt_of_le_of_lt (Nat.div_le_self _ _) t)] at e
  rw [e, ← val_drop_div X hX _ hw, Nat.div_div_eq_div_mul, Nat.mul_comm, pow_shift]
theorem shr_zero {X : List Int} {n : Nat} (hX : Lim X) (hw : X.length ≤ n / 32) : val X / 2 ^ n = 0 := by
  have t := val_lt hX
  apply Nat.div_eq_of_lt
  refine Nat.lt_of_lt_of_le t ?_
  rw [pow_B]
  exact Nat.pow_le_pow_right (by omega) (by omega)
end Go.Proofs.Ytdmahjbjlppeaaa

namespace Go.Proofs.Ytdmahjbjlppeaaa

/-- After k rounds of a difference with q times V. -/
structure WinInv (X V o : List Int) (k : Nat) (q c b : Int) : Prop where
  len : o.length = X.length
  tail : o.drop k = X.drop k
  c0 : 0 ≤ c
  c1 : c < 4294967296
  b0 : 0 ≤ b
  b1 : b ≤ 1
  last : V.length < k → c = 0
  eq : val (X.take k) + 4294967296 ^ k * (b.toNat + c.toNat) = val (o.take k) + q.toNat * val (V.take k)
theorem getD_of_drop {a b : List Int} {k : Nat} (h : a.drop k = b.drop k) : a.getD k 0 = b.getD k 0 := by
  have h1 : (a.drop k)[0]? = (b.drop k)[0]? := by rw [h]
  rw [List.getElem?_drop, List.getElem?_drop, Nat.add_zero] at h1
  rw [List.getD_eq_getElem?_getD, List.getD_eq_getElem?_getD, h1]
theorem drop_set_succ {a b : List Int} {k : Nat} {x : Int} (h : a.drop k = b.drop k) : (a.set k x).drop (k + 1) = b.drop (k + 1) := by
  rw [List.drop_set_of_lt (by omega)]
  have : (a.drop k).drop 1 = (b.drop k).drop 1 := by rw [h]
  rwa [List.drop_drop, List.drop_drop] at this
theorem WinInv.start (X V : List Int) (q : Int) : WinInv X V X 0 q 0 0 := ⟨rfl, rfl, by omega, by omega, by omega, by omega, by omega, by simp [val]⟩
theorem sub_limb (x p b : Int) (hx : 0 ≤ x ∧ x < 4294967296) (hp : 0 ≤ p) (hb : 0 ≤ b ∧ b ≤ 1) :
    x.toNat + 4294967296 * ((if x - p % 4294967296 - b < 0 then (1 : Int) else 0).toNat + (p / 4294967296).toNat) = ((x - p % 4294967296 - b) % 4294967296).toNat + b.toNat + p.toNat := by
  split <;> omega
theorem WinInv.step {X V o : List Int} {k : Nat} {q c b : Int} (h : WinInv X V o k q c b) (hX : Lim X) (hV : Lim V) (hq : 0 ≤ q ∧ q < 4294967296) (hk : k < X.length) :
    WinInv X V (o.set k ((X.getD k 0 - (c + q * V.getD k 0) % 4294967296 - b) % 4294967296)) (k + 1) q ((c + q * V.getD k 0) / 4294967296) (if X.getD k 0 - (c + q * V.getD k 0) % 4294967296 - b < 0 then 1 else 0) := by
  have hx := hX.getD k
  have hv := hV.getD k
  have hp := mul_lim hq hv
  have h0 := h.c0
  have h1 := h.c1
  have h2 := h.b0
  have h3 := h.b1
  refine ⟨by rw [List.length_set]; exact h.len, drop_set_succ h.tail, by omega, by omega, by split <;> omega, by split <;> omega, ?_, ?_⟩
  · intro hl
    have : V.getD k 0 = 0 := by rw [List.getD_eq_getElem?_getD, List.getElem?_eq_none (by omega)]; rfl
    rw [this, Int.mul_zero]
    omega
  · have e := h.eq
    have hs := sub_limb (X.getD k 0) (c + q * V.getD k 0) b hx (by omega) ⟨h2, h3⟩
    rw [val_set_take _ _ _ (by rw [h.len]; exact hk), val_take_succ' X, val_take_succ' V, Nat.pow_succ]
    have hm : (c + q * V.getD k 0).toNat = c.toNat + q.toNat * (V.getD k 0).toNat := by rw [Int.toNat_add h0 hp.1, Int.toNat_mul hq.1 hv.1]
    rw [hm] at hs
    generalize (if X.getD k 0 - (c + q * V.getD k 0) % 4294967296 - b < 0 then (1 : Int) else 0).toNat = b' at *
    generalize ((c + q * V.getD k 0) / 4294967296).toNat = c' at *
    generalize ((X.getD k 0 - (c + q * V.getD k 0) % 4294967296 - b) % 4294967296).toNat = r at *
    generalize (X.getD k 0).toNat = x at *
    generalize (V.getD k 0).toNat = v at *
    generalize 4294967296 ^ k = Bk at *
    have : Bk * (x + 4294967296 * (b' + c')) = Bk * (r + b.toNat + (c.toNat + q.toNat * v)) := by rw [hs]
    grind

/-- What is left, with what has been taken too much. -/
structure BackInv (W V n : Nat) (o : List Int) (q b : Int) : Prop where
  lim : Lim o
  len : o.length = n
  q0 : 0 ≤ q
  q1 : q < 4294967296
  b0 : 0 ≤ b
  b1 : b ≤ 1
  eq : W + b.toNat * 4294967296 ^ n = val o + q.toNat * V
  up : W < (q.toNat + 1) * V
theorem WinInv.back {X V o : List Int} {q c b : Int} (h : WinInv X V o X.length q c b) (ho : Lim o) (hl : V.length < X.length) (hq : 0 ≤ q ∧ q < 4294967296) (hup : val X < (q.toNat + 1) * val V) : BackInv (val X) (val V) X.length o q b := by
  have e := h.eq
  rw [h.last hl, List.take_length, List.take_of_length_le (l := o) (by rw [h.len]; exact Nat.le_refl _), List.take_of_length_le (l := V) (by omega)] at e
  exact ⟨ho, h.len, hq.1, hq.2, h.b0, h.b1, by rw [Int.toNat_zero, Nat.add_zero, Nat.mul_comm] at e; exact e, hup⟩
theorem BackInv.pos {W V n : Nat} {o : List Int} {q b : Int} (h : BackInv W V n o q b) (hb : 0 < b) : 1 ≤ q := by
  have h1 := h.b1
  have e := h.eq
  have t := val_lt h.lim
  rw [h.len] at t
  have h0 := h.q0
  rw [show b = 1 by omega] at e
  rcases Int.lt_or_le q 1 with hq | hq
  · rw [show q = 0 by omega, Int.toNat_zero, Nat.zero_mul] at e
    have : (1 : Int).toNat = 1 := rfl
    rw [this] at e
    omega
  · exact hq
theorem BackInv.step {W V n : Nat} {o o' : List Int} {Y : List Int} {q b c : Int} (h : BackInv W V n o q b) (hb : 0 < b) (hi : AddInv o Y o' n c) (ho' : Lim o') (hl : o'.length = n) (hY : val Y = V) (hYl : Y.length ≤ n) : BackInv W V n o' (q - 1) (b - c) := by
  have h1 := h.b1
  have e := h.eq
  have t := val_lt h.lim
  rw [h.len] at t
  have hp := h.pos hb
  have c0 := hi.c0
  have c1 := hi.c1
  have q1 := h.q1
  have ei := hi.eq
  rw [List.take_of_length_le (by omega), List.take_of_length_le (l := o) (by rw [h.len]; exact Nat.le_refl _), List.take_of_length_le (l := Y) hYl, hY] at ei
  have hb1 : b = 1 := by omega
  subst hb1
  have e1 : (1 : Int).toNat = 1 := rfl
  rw [e1, Nat.one_mul] at e
  obtain ⟨Q, hQ⟩ : ∃ Q, q.toNat = Q + 1 := ⟨q.toNat - 1, by omega⟩
  have hq' : (q - 1).toNat = Q := by omega
  rw [hQ, Nat.add_mul, Nat.one_mul] at e
  refine ⟨ho', hl, by omega, by omega, by omega, by omega, ?_, ?_⟩
  · rw [hq']
    have hc : (1 - c).toNat + c.toNat = 1 := by omega
    have : (1 - c).toNat * 4294967296 ^ n + 4294967296 ^ n * c.toNat = 4294967296 ^ n := by rw [Nat.mul_comm (4294967296 ^ n), ← Nat.add_mul, hc, Nat.one_mul]
    omega
  · rw [hq', Nat.add_mul, Nat.one_mul]
    omega
theorem BackInv.last {W V n : Nat} {o : List Int} {q : Int} (h : BackInv W V n o q 0) : q = ((W / V : Nat) : Int) ∧ val o = W % V := by
  have e := h.eq
  have u := h.up
  have q0 := h.q0
  rw [show (0 : Int).toNat = 0 from rfl, Nat.zero_mul, Nat.add_zero] at e
  rw [Nat.add_mul, Nat.one_mul] at u
  have hV : val o < V := by omega
  rw [e, Nat.mul_comm, Nat.add_comm, Nat.mul_add_div (by omega), Nat.div_eq_of_lt hV, Nat.mul_add_mod, Nat.mod_eq_of_lt hV]
  omega
theorem guess_up {X V : List Int} {n : Nat} (hX : Lim X) (hV : Lim V) (hXl : X.length = n + 2) (hVl : V.length = n + 1) (htop : 0 < V.getD n 0) (hW : val X < 4294967296 * val V) :
    0 ≤ min ((X.getD (n + 1) 0 * 4294967296 + X.getD n 0) / V.getD n 0) 4294967295 ∧ min ((X.getD (n + 1) 0 * 4294967296 + X.getD n 0) / V.getD n 0) 4294967295 < 4294967296 ∧
      val X < ((min ((X.getD (n + 1) 0 * 4294967296 + X.getD n 0) / V.getD n 0) 4294967295).toNat + 1) * val V := by
  have hx := hX.getD n
  have hx1 := hX.getD (n + 1)
  have hv := hV.getD n
  have hd0 : 0 ≤ (X.getD (n + 1) 0 * 4294967296 + X.getD n 0) / V.getD n 0 := Int.ediv_nonneg (by omega) hv.1
  refine ⟨by omega, by omega, ?_⟩
  rcases Int.lt_or_le 4294967295 ((X.getD (n + 1) 0 * 4294967296 + X.getD n 0) / V.getD n 0) with hq | hq
  · rw [Int.min_eq_right (by omega)]
    exact hW
  · rw [Int.min_eq_left hq]
    have hm := Int.lt_mul_ediv_self_add (x := X.getD (n + 1) 0 * 4294967296 + X.getD n 0) htop
    have e1 := val_take_drop X n (by omega)
    have t1 := val_lt (hX.take n)
    rw [List.length_take, Nat.min_eq_left (by omega)] at t1
    rw [val_drop_eq X n (by omega), val_drop_eq X (n + 1) (by omega), val_drop_ge X (n + 1 + 1) (by omega), Nat.mul_zero, Nat.add_zero] at e1
    have e2 := val_take_drop V n (by omega)
    rw [val_drop_eq V n (by omega), val_drop_ge V (n + 1) (by omega), Nat.mul_zero, Nat.add_zero] at e2
    generalize hqq : (X.getD (n + 1) 0 * 4294967296 + X.getD n 0) / V.getD n 0 = q at *
    have hnat : (X.getD n 0).toNat + 4294967296 * (X.getD (n + 1) 0).toNat < (V.getD n 0).toNat * q.toNat + (V.getD n 0).toNat := by
      have : (((V.getD n 0).toNat * q.toNat : Nat) : Int) = V.getD n 0 * q := by rw [Int.natCast_mul, Int.toNat_of_nonneg hv.1, Int.toNat_of_nonneg hd0]
      omega
    generalize (X.getD n 0).toNat + 4294967296 * (X.getD (n + 1) 0).toNat = top at *
    generalize (V.getD n 0).toNat = v at *
    generalize q.toNat = Q at *
    have a1 : 4294967296 ^ n * (top + 1) ≤ 4294967296 ^ n * (v * Q + v) := Nat.mul_le_mul_left _ hnat
    have a2 : 4294967296 ^ n * v * (Q + 1) ≤ val V * (Q + 1) := Nat.mul_le_mul_right _ (by omega)
    have a3 : 4294967296 ^ n * (v * Q + v) = 4294967296 ^ n * v * (Q + 1) := by grind
    rw [Nat.mul_comm (Q + 1)]
    rw [Nat.mul_add, Nat.mul_one] at a1
    omega
/-- A window within a row. -/
theorem win_set (pre win post : List Int) (k : Nat) (x : Int) (h : k < win.length) : (pre ++ win ++ post).set (pre.length + k) x = pre ++ win.set k x ++ post := by
  rw [List.append_assoc, List.set_append_right _ _ (by omega), Nat.add_sub_cancel_left, List.set_append_left _ _ h, List.append_assoc]
theorem win_getD (pre win post : List Int) (k : Nat) (h : k < win.length) : (pre ++ win ++ post).getD (pre.length + k) 0 = win.getD k 0 := by
  rw [List.append_assoc, List.getD_eq_getElem?_getD, List.getD_eq_getElem?_getD, List.getElem?_append_right (by omega), Nat.add_sub_cancel_left, List.getElem?_append_left h]
end Go.Proofs.Ytdmahjbjlppeaaa

namespace Go.Proofs.Ytdmahjbjlppeaaa

structure DivInv (U0 V U Q : List Int) (k : Nat) : Prop where
  lim : Lim U
  limQ : Lim Q
  len : U.length = U0.length
  low : U.take k = U0.take k
  lt : val (U.drop k) < val V
  eq : val (U0.drop k) = val (Q.drop k) * val V + val (U.drop k)
/-- What lies above the window is nought. -/
theorem DivInv.win {U0 V U Q : List Int} {j : Nat} (h : DivInv U0 V U Q (j + 1)) (hV : Lim V) (hj : j + V.length < U.length) :
    val ((U.drop j).take (V.length + 1)) = val (U.drop j) ∧ val (U.drop j) < 4294967296 * val V ∧ val (U.drop (j + V.length + 1)) = 0 := by
  have hlt := h.lt
  have hv := val_lt hV
  have e1 := val_take_drop (U.drop (j + 1)) V.length (by simp; omega)
  rw [List.drop_drop] at e1
  have hz : val (U.drop (j + 1 + V.length)) = 0 := by
    rcases Nat.eq_zero_or_pos (val (U.drop (j + 1 + V.length))) with h0 | h0
    · exact h0
    · have := Nat.mul_le_mul_left (4294967296 ^ V.length) h0
      omega
  have e2 := val_take_drop (U.drop j) (V.length + 1) (by simp; omega)
  rw [List.drop_drop, show j + (V.length + 1) = j + 1 + V.length by omega, hz, Nat.mul_zero, Nat.add_zero] at e2
  have e3 := val_drop_eq U j (by omega)
  have hx := h.lim.getD j
  exact ⟨e2.symm, by omega, by rw [show j + V.length + 1 = j + 1 + V.length by omega]; exact hz⟩
theorem DivInv.step {U0 V U Q win' : List Int} {j : Nat} (h : DivInv U0 V U Q (j + 1)) (hV : Lim V) (hj : j + V.length < U.length) (hQ : j < Q.length)
    (hw : Lim win') (hwl : win'.length = V.length + 1) (hwv : val win' = val (U.drop j) % val V) :
    DivInv U0 V (U.take j ++ win' ++ U.drop (j + V.length + 1)) (Q.set j ((val (U.drop j) / val V : Nat) : Int)) j := by
  obtain ⟨w1, w2, w3⟩ := h.win hV hj
  have hVp : 0 < val V := by have := h.lt; omega
  have hq : val (U.drop j) / val V < 4294967296 := Nat.div_lt_of_lt_mul (by rw [Nat.mul_comm]; exact w2)
  have hpl : (U.take j).length = j := by simp; omega
  have hlow : (U.take j ++ win' ++ U.drop (j + V.length + 1)).take j = U.take j := by
    rw [List.append_assoc, List.take_append_of_le_length (by omega), List.take_of_length_le (by omega)]
  have hdrop : (U.take j ++ win' ++ U.drop (j + V.length + 1)).drop j = win' ++ U.drop (j + V.length + 1) := by
    rw [List.append_assoc, List.drop_append_of_le_length (by omega), List.drop_of_length_le (by omega), List.nil_append]
  have hval : val ((U.take j ++ win' ++ U.drop (j + V.length + 1)).drop j) = val (U.drop j) % val V := by
    rw [hdrop, val_append, w3, Nat.mul_zero, Nat.add_zero, hwv]
  have hl0 := h.low
  refine ⟨((h.lim.take j).append hw).append (h.lim.drop _), h.limQ.set j (Int.natCast_nonneg _) (Int.ofNat_lt.2 hq), ?_, ?_, ?_, ?_⟩
  · have := h.len
    simp; omega
  · rw [hlow]
    have := congrArg (List.take j) hl0
    rwa [List.take_take, List.take_take, Nat.min_eq_left (by omega)] at this
  · rw [hval]; exact Nat.mod_lt _ hVp
  · rw [hval, val_drop_set hQ, Int.toNat_natCast]
    have e0 := h.eq
    have hU0 := h.len
    have d0 := val_drop_eq U0 j (by omega)
    have d1 := val_drop_eq U j (by omega)
    have hg : U.getD j 0 = U0.getD j 0 := by
      have := congrArg (fun l => l[j]?) hl0
      simp only [List.getElem?_take, if_pos (show j < j + 1 by omega)] at this
      rw [List.getD_eq_getElem?_getD, List.getD_eq_getElem?_getD, this]
    rw [hg] at d1
    have hm := Nat.div_add_mod (val (U.drop j)) (val V)
    rw [d0, e0]
    generalize val (List.drop (j + 1) Q) = Qv at *
    generalize val (U.drop j) / val V = q at *
    generalize val (U.drop j) % val V = r at *
    grind
theorem DivInv.last {U0 V U Q : List Int} (h : DivInv U0 V U Q 0) : val Q = val U0 / val V ∧ val U = val U0 % val V := by
  have e := h.eq
  have l := h.lt
  simp only [List.drop_zero] at e l
  rw [e, Nat.mul_comm, Nat.mul_add_div (by omega), Nat.div_eq_of_lt l, Nat.mul_add_mod, Nat.mod_eq_of_lt l]
  omega

/-- The divisor, its top bit shifted up: as many limbs, and great. -/
theorem norm_len {b n : Nat} (hn : (digs b).length = n + 1) {s : Nat} (hs : s + blen ((digs b).getD n 0).toNat = 32) :
    (digs (b * 2 ^ s)).length = n + 1 ∧ 4294967296 ^ n * 2147483648 ≤ b * 2 ^ s := by
  have ht := top_ne_zero hn
  have hl := (digs_lim b).getD n
  have e := val_take_drop (digs b) n (by omega)
  rw [val_drop_eq _ n (by omega), val_drop_ge _ (n + 1) (by omega), val_digs, Nat.mul_zero, Nat.add_zero] at e
  have t1 := val_lt ((digs_lim b).take n)
  rw [List.length_take, Nat.min_eq_left (by omega)] at t1
  have ht0 : 0 < ((digs b).getD n 0).toNat := by omega
  generalize ((digs b).getD n 0).toNat = t at *
  have b1 := blen_le ht0
  have b2 := blen_lt t
  have b3 := blen_pos ht0
  have p1 : 2 ^ (blen t - 1) * 2 ^ s = 2147483648 := by rw [← Nat.pow_add, show blen t - 1 + s = 31 by omega]
  have p2 : 2 ^ blen t * 2 ^ s = 4294967296 := by rw [← Nat.pow_add, show blen t + s = 32 by omega]
  have c1 : t * 2 ^ s ≥ 2147483648 := by rw [← p1]; exact Nat.mul_le_mul_right _ b1
  have c2 : (t + 1) * 2 ^ s ≤ 4294967296 := by rw [← p2]; exact Nat.mul_le_mul_right _ b2
  have d1 : 4294967296 ^ n * 2147483648 ≤ b * 2 ^ s := by
    have x1 : 4294967296 ^ n * 2147483648 ≤ 4294967296 ^ n * (t * 2 ^ s) := Nat.mul_le_mul_left _ c1
    have x2 : 4294967296 ^ n * t * 2 ^ s ≤ b * 2 ^ s := Nat.mul_le_mul_right _ (by omega)
    rw [Nat.mul_assoc] at x2
    omega
  have d2 : b * 2 ^ s < 4294967296 ^ (n + 1) := by
    have x1 : 4294967296 ^ n * ((t + 1) * 2 ^ s) ≤ 4294967296 ^ n * 4294967296 := Nat.mul_le_mul_left _ c2
    have x2 : b * 2 ^ s < 4294967296 ^ n * (t + 1) * 2 ^ s := Nat.mul_lt_mul_of_pos_right (by rw [Nat.mul_add, Nat.mul_one]; omega) (Nat.pow_pos (by omega))
    rw [Nat.mul_assoc] at x2
    rw [Nat.pow_succ]
    omega
  refine ⟨?_, d1⟩
  have := digs_len_le d2
  rcases Nat.lt_or_ge (digs (b * 2 ^ s)).length (n + 1) with h1 | h1
  · have := (digs_len_lt_iff (n := b * 2 ^ s) (k := n)).1 (by omega)
    omega
  · omega
/-- The dividend, shifted, one limb longer: what the loop begins with. -/
theorem div_start {a b n la s : Nat} (ha : (digs a).length = la) (hn : n + 1 ≤ la) (hs31 : s ≤ 31) (hv : 4294967296 ^ n * 2147483648 ≤ b * 2 ^ s) :
    (digs (a * 2 ^ s)).length ≤ la + 1 ∧ val ((digs (a * 2 ^ s) ++ [0, 0]).take (la + 1)) = a * 2 ^ s ∧ ((digs (a * 2 ^ s) ++ [0, 0]).take (la + 1)).length = la + 1 ∧
      val (((digs (a * 2 ^ s) ++ [0, 0]).take (la + 1)).drop (la - n)) < b * 2 ^ s := by
  have h1 := digs_lt_pow a
  rw [ha] at h1
  have h2 : 2 ^ s ≤ 2 ^ 31 := Nat.pow_le_pow_right (by omega) hs31
  have h3 : a * 2 ^ s < 4294967296 ^ la * 2147483648 := Nat.lt_of_lt_of_le (Nat.mul_lt_mul_of_pos_right h1 (Nat.pow_pos (by omega))) (Nat.mul_le_mul_left _ h2)
  have h4 : (digs (a * 2 ^ s)).length ≤ la + 1 := digs_len_le (by rw [Nat.pow_succ]; exact Nat.lt_of_lt_of_le h3 (Nat.mul_le_mul_left _ (by omega)))
  have h5 : la ≤ (digs (a * 2 ^ s)).length := by
    rw [← ha]; exact digs_len_mono (Nat.le_mul_of_pos_right _ (Nat.pow_pos (by omega)))
  have h6 : val ((digs (a * 2 ^ s) ++ [0, 0]).take (la + 1)) = a * 2 ^ s := by
    rcases Nat.lt_or_ge la (digs (a * 2 ^ s)).length with h | h
    · rw [List.take_append_of_le_length (by omega), List.take_of_length_le (by omega), val_digs]
    · have e : (digs (a * 2 ^ s)).length = la := by omega
      rw [List.take_append, List.take_of_length_le (by omega), e, show la + 1 - la = 1 by omega]
      show val (digs (a * 2 ^ s) ++ [0]) = _
      rw [val_snoc_zero, val_digs]
  have h7 : ((digs (a * 2 ^ s) ++ [0, 0]).take (la + 1)).length = la + 1 := by simp; omega
  refine ⟨h4, h6, h7, ?_⟩
  have e := val_take_drop ((digs (a * 2 ^ s) ++ [0, 0]).take (la + 1)) (la - n) (by omega)
  rw [h6] at e
  have hp : 4294967296 ^ la = 4294967296 ^ (la - n) * 4294967296 ^ n := by rw [← Nat.pow_add, Nat.sub_add_cancel (by omega)]
  rw [hp, Nat.mul_assoc] at h3
  have : 4294967296 ^ (la - n) * val (((digs (a * 2 ^ s) ++ [0, 0]).take (la + 1)).drop (la - n)) < 4294967296 ^ (la - n) * (4294967296 ^ n * 2147483648) := by omega
  exact Nat.lt_of_lt_of_le (Nat.lt_of_mul_lt_mul_left this) hv
theorem div_shift (a b s : Nat) : a * 2 ^ s / (b * 2 ^ s) = a / b ∧ a * 2 ^ s % (b * 2 ^ s) / 2 ^ s = a % b := by
  have hp : 0 < 2 ^ s := Nat.pow_pos (by omega)
  refine ⟨Nat.mul_div_mul_right _ _ hp, ?_⟩
  rw [Nat.mul_mod_mul_right, Nat.mul_div_cancel _ hp]
end Go.Proofs.Ytdmahjbjlppeaaa

namespace Go.Proofs.Ytdmahjbjlppeaaa

/-- The greatest number whose square is not above a. -/
def rootN (a : Nat) : Nat := if h : a = 0 then 0 else
  if (2 * rootN (a / 4) + 1) * (2 * rootN (a / 4) + 1) ≤ a then 2 * rootN (a / 4) + 1 else 2 * rootN (a / 4)
termination_by a
decreasing_by all_goals omega
theorem rootN_spec (a : Nat) : rootN a * rootN a ≤ a ∧ a < (rootN a + 1) * (rootN a + 1) := by
  induction a using Nat.strongRecOn with
  | ind a ih =>
    by_cases h : a = 0
    · subst h; rw [rootN]; simp
    · have hi := ih (a / 4) (by omega)
      rw [rootN, dif_neg h]
      generalize rootN (a / 4) = r at *
      obtain ⟨h1, h2⟩ := hi
      have e1 : 2 * r * (2 * r) = 4 * (r * r) := by grind
      have e2 : (2 * r + 1) * (2 * r + 1) = 4 * (r * r) + 4 * r + 1 := by grind
      have e3 : (2 * r + 1 + 1) * (2 * r + 1 + 1) = 4 * ((r + 1) * (r + 1)) := by grind
      split
      · exact ⟨by assumption, by omega⟩
      · exact ⟨by omega, by omega⟩
theorem rootN_unique {a r : Nat} (h1 : r * r ≤ a) (h2 : a < (r + 1) * (r + 1)) : r = rootN a := by
  obtain ⟨g1, g2⟩ := rootN_spec a
  rcases Nat.lt_trichotomy r (rootN a) with h | h | h
  · have : (r + 1) * (r + 1) ≤ rootN a * rootN a := Nat.mul_le_mul h h
    omega
  · exact h
  · have : (rootN a + 1) * (rootN a + 1) ≤ r * r := Nat.mul_le_mul h h
    omega
theorem rootN_ge {a x : Nat} (h : x * x ≤ a) : x ≤ rootN a := by
  obtain ⟨_, g2⟩ := rootN_spec a
  rcases Nat.lt_or_ge (rootN a) x with h1 | h1
  · have : (rootN a + 1) * (rootN a + 1) ≤ x * x := Nat.mul_le_mul h1 h1
    omega
  · exact h1
theorem rootN_lt {a x : Nat} (h : a < x * x) : rootN a < x := by
  obtain ⟨g1, _⟩ := rootN_spec a
  rcases Nat.lt_or_ge (rootN a) x with h1 | h1
  · exact h1
  · have : x * x ≤ rootN a * rootN a := Nat.mul_le_mul h1 h1
    omega
theorem rootN_pos {a : Nat} (h : 0 < a) : 0 < rootN a := rootN_ge (x := 1) (by omega)
theorem rootN_le (a : Nat) : rootN a ≤ a := by
  obtain ⟨g1, _⟩ := rootN_spec a
  rcases Nat.eq_zero_or_pos (rootN a) with h | h
  · omega
  · have : rootN a * 1 ≤ rootN a * rootN a := Nat.mul_le_mul_left _ h
    omega
/-- Newton's step never falls below the root; where it does not fall, it is there. -/
theorem newton_ge {a x : Nat} (hx : 0 < x) : rootN a ≤ (x + a / x) / 2 := by
  obtain ⟨g1, _⟩ := rootN_spec a
  generalize rootN a = r at *
  rcases Nat.lt_or_ge ((x + a / x) / 2) r with h | h
  · have hd := Nat.lt_mul_div_succ a hx
    have h1 : x + (a / x + 1) ≤ 2 * r := by omega
    generalize a / x + 1 = d at *
    have h2 : x * d < r * r + 1 := by
      rcases Nat.le_total x d with hh | hh
      · obtain ⟨k, rfl⟩ := Nat.exists_eq_add_of_le hh
        obtain ⟨m, hm⟩ := Nat.exists_eq_add_of_le h1
        have : 4 * (x * (x + k)) ≤ (2 * r) * (2 * r) := by
          rw [hm]
          have : (x + (x + k) + m) * (x + (x + k) + m) = 4 * (x * (x + k)) + k * k + (2 * (2 * x + k) * m + m * m) := by grind
          omega
        have : (2 * r) * (2 * r) = 4 * (r * r) := by grind
        omega
      · obtain ⟨k, rfl⟩ := Nat.exists_eq_add_of_le hh
        obtain ⟨m, hm⟩ := Nat.exists_eq_add_of_le h1
        have : 4 * ((d + k) * d) ≤ (2 * r) * (2 * r) := by
          rw [hm]
          have : (d + k + d + m) * (d + k + d + m) = 4 * ((d + k) * d) + k * k + (2 * (2 * d + k) * m + m * m) := by grind
          omega
        have : (2 * r) * (2 * r) = 4 * (r * r) := by grind
        omega
    omega
  · exact h
theorem newton_end {a x : Nat} (hx : 0 < x) (hr : rootN a ≤ x) (h : x ≤ (x + a / x) / 2) : x = rootN a := by
  have h1 : x ≤ a / x := by omega
  have h2 : x * x ≤ a := (Nat.le_div_iff_mul_le hx).1 h1
  have := rootN_ge h2
  omega
theorem root_start (a : Nat) : rootN a < 2 ^ ((blen a + 1) / 2) := by
  apply rootN_lt
  rw [← Nat.pow_add]
  exact Nat.lt_of_lt_of_le (blen_lt a) (Nat.pow_le_pow_right (by omega) (by omega))
theorem digs_one : digs 1 = [1] := by rw [digs_pos (by omega), digs_zero]; rfl
end Go.Proofs.Ytdmahjbjlppeaaa

namespace Go.Proofs.Ytdmahjbjlppeaaa

structure RDivInv (U : List Int) (V R : Nat) (Q : List Int) (k : Nat) : Prop where
  limQ : Lim Q
  lt : R < V
  eq : val (U.drop k) = val (Q.drop k) * V + R
  z : ∀ j, j < k → Q.getD j 0 = 0
theorem RDivInv.bound {U : List Int} {V R : Nat} {Q : List Int} {i : Nat} (h : RDivInv U V R Q (i + 1)) (hU : Lim U) : (U.getD i 0).toNat + 4294967296 * R < 4294967296 * V := by
  have hx := hU.getD i
  have := h.lt
  omega
theorem RDivInv.skip {U : List Int} {V R : Nat} {Q : List Int} {i : Nat} (h : RDivInv U V R Q (i + 1)) (hi : i < U.length) (hQ : i < Q.length) (hlt : (U.getD i 0).toNat + 4294967296 * R < V) :
    RDivInv U V ((U.getD i 0).toNat + 4294967296 * R) Q i := by
  refine ⟨h.limQ, hlt, ?_, fun j hj => h.z j (by omega)⟩
  have e := h.eq
  rw [val_drop_eq U i hi, val_drop_eq Q i hQ, h.z i (by omega), e]
  simp only [Int.toNat_zero, Nat.zero_add]
  grind
theorem RDivInv.take {U : List Int} {V R : Nat} {Q : List Int} {i : Nat} (h : RDivInv U V R Q (i + 1)) (hU : Lim U) (hi : i < U.length) (hQ : i < Q.length) :
    RDivInv U V (((U.getD i 0).toNat + 4294967296 * R) % V) (Q.set i ((((U.getD i 0).toNat + 4294967296 * R) / V : Nat) : Int)) i := by
  have hb := h.bound hU
  have hq : ((U.getD i 0).toNat + 4294967296 * R) / V < 4294967296 := Nat.div_lt_of_lt_mul (by rw [Nat.mul_comm V]; exact hb)
  refine ⟨h.limQ.set i (Int.natCast_nonneg _) (Int.ofNat_lt.2 hq), Nat.mod_lt _ (by have := h.lt; omega), ?_, fun j hj => by rw [getD_set_ne _ _ _ _ (by omega)]; exact h.z j (by omega)⟩
  have e := h.eq
  rw [val_drop_eq U i hi, val_drop_set hQ, Int.toNat_natCast, e]
  have hm := Nat.div_add_mod ((U.getD i 0).toNat + 4294967296 * R) V
  generalize ((U.getD i 0).toNat + 4294967296 * R) / V = q at *
  generalize ((U.getD i 0).toNat + 4294967296 * R) % V = r at *
  grind
theorem RDivInv.last {U : List Int} {V R : Nat} {Q : List Int} (h : RDivInv U V R Q 0) : val Q = val U / V ∧ R = val U % V := by
  have e := h.eq
  have l := h.lt
  simp only [List.drop_zero] at e
  rw [e, Nat.mul_comm, Nat.mul_add_div (by omega), Nat.div_eq_of_lt l, Nat.mul_add_mod, Nat.mod_eq_of_lt l]
  omega
theorem RDivInv.start {U : List Int} {V : Nat} (hV : 0 < V) (n : Nat) (hn : U.length = n) : RDivInv U V 0 (List.replicate n 0) n :=
  ⟨Lim.replicate _, hV, by rw [val_drop_ge U n (by omega), val_drop_ge (List.replicate n 0) n (by simp)]; simp, fun j hj => by simp [List.getD_eq_getElem?_getD, hj]⟩
theorem getD_pad (X : List Int) (m i : Nat) : (X ++ List.replicate m 0).getD i 0 = X.getD i 0 := by
  rw [List.getD_eq_getElem?_getD, List.getD_eq_getElem?_getD]
  by_cases h : i < X.length
  · rw [List.getElem?_append_left h]
  · rw [List.getElem?_append_right (by omega), List.getElem?_eq_none (l := X) (by omega), List.getElem?_replicate]
    split <;> rfl
theorem val_pad (X : List Int) (m : Nat) : val (X ++ List.replicate m 0) = val X := by rw [val_append, val_replicate]; simp
/-- The guess is not too small. -/
theorem rguess {R' n : Nat} {V : List Int} (hV : Lim V) (hVl : V.length = n + 1) (htop : 0 < V.getD n 0) (hW : R' < 4294967296 * val V) :
    0 ≤ min (((digs R').getD (n + 1) 0 * 4294967296 + (digs R').getD n 0) / V.getD n 0) 4294967295 ∧ min (((digs R').getD (n + 1) 0 * 4294967296 + (digs R').getD n 0) / V.getD n 0) 4294967295 < 4294967296 ∧
      R' < ((min (((digs R').getD (n + 1) 0 * 4294967296 + (digs R').getD n 0) / V.getD n 0) 4294967295).toNat + 1) * val V := by
  have hl : (digs R').length ≤ n + 2 := digs_len_le (by
    have h1 := val_lt hV
    rw [hVl] at h1
    rw [show n + 2 = n + 1 + 1 by omega, Nat.pow_succ]
    omega)
  have := guess_up (X := digs R' ++ List.replicate (n + 2 - (digs R').length) 0) (V := V) (n := n) ((digs_lim R').append (Lim.replicate _)) hV (by simp; omega) hVl htop (by rw [val_pad, val_digs]; exact hW)
  rw [getD_pad, getD_pad, val_pad, val_digs] at this
  exact this
theorem div_of_bounds {R V g : Nat} (h1 : g * V ≤ R) (h2 : R < (g + 1) * V) : g = R / V ∧ R - g * V = R % V := by
  have hV : 0 < V := by
    rcases Nat.eq_zero_or_pos V with h | h
    · subst h; simp at h2
    · exact h
  have : R / V = g := by
    rw [Nat.div_eq_iff hV]
    rw [Nat.add_mul, Nat.one_mul] at h2
    omega
  refine ⟨this.symm, ?_⟩
  have hm := Nat.div_add_mod R V
  rw [this, Nat.mul_comm] at hm
  omega
end Go.Proofs.Ytdmahjbjlppeaaa

namespace Go.Proofs.Ytdmahjbjlppeaaa

/-- The digits of a number as bytes, the lowest first; of 0 none. -/
def decR (n : Nat) : List Int := if h : n = 0 then [] else ((48 + n % 10 : Nat) : Int) :: decR (n / 10)
termination_by n
decreasing_by omega
theorem decR_zero : decR 0 = [] := by rw [decR]; simp
theorem decR_pos {n : Nat} (h : 0 < n) : decR n = ((48 + n % 10 : Nat) : Int) :: decR (n / 10) := by rw [decR, dif_neg (by omega)]
theorem decR_lim (n : Nat) : ∀ x, x ∈ decR n → 48 ≤ x ∧ x ≤ 57 := by
  induction n using Nat.strongRecOn with
  | ind n ih =>
    intro x hx
    rcases Nat.eq_zero_or_pos n with h | h
    · subst h; rw [decR_zero] at hx; simp at hx
    · rw [decR_pos h] at hx
      rcases List.mem_cons.1 hx with rfl | hx
      · omega
      · exact ih _ (by omega) x hx
theorem decR_len_le {n k : Nat} (h : n < 10 ^ k) : (decR n).length ≤ k := by
  induction k generalizing n with
  | zero => have : n = 0 := by simpa using h
            subst this; rw [decR_zero]; simp
  | succ k ih =>
    rcases Nat.eq_zero_or_pos n with h0 | h0
    · subst h0; rw [decR_zero]; simp
    · rw [decR_pos h0, List.length_cons]
      have : n / 10 < 10 ^ k := by rw [Nat.pow_succ] at h; omega
      have := ih this
      omega
theorem decR_len_val {l : List Int} (h : Lim l) : (decR (val l)).length ≤ 10 * l.length := by
  apply decR_len_le
  refine Nat.lt_of_lt_of_le (val_lt h) ?_
  rw [Nat.pow_mul]
  exact Nat.pow_le_pow_left (by decide) _
/-- One digit off a chunk of nine. -/
theorem decR_chunk {q r k : Nat} (hk : k < 9) (hr : r < 10 ^ (9 - k)) (hp : 0 < q ∨ 0 < r) :
    decR (q * 10 ^ (9 - k) + r) = ((48 + r % 10 : Nat) : Int) :: decR (q * 10 ^ (9 - (k + 1)) + r / 10) ∧ r / 10 < 10 ^ (9 - (k + 1)) := by
  obtain ⟨m, hm⟩ : ∃ m, 9 - k = m + 1 := ⟨8 - k, by omega⟩
  have hm2 : 9 - (k + 1) = m := by omega
  rw [hm, Nat.pow_succ] at hr
  rw [hm2, hm, Nat.pow_succ]
  have hT : 0 < 10 ^ m := Nat.pow_pos (by omega)
  have hv : 0 < q * (10 ^ m * 10) + r := by
    rcases hp with h | h
    · have : 1 * (10 ^ m * 10) ≤ q * (10 ^ m * 10) := Nat.mul_le_mul_right _ h
      omega
    · omega
  rw [decR_pos hv]
  have e : q * (10 ^ m * 10) + r = 10 * (q * 10 ^ m) + r := by grind
  rw [e]
  refine ⟨?_, by omega⟩
  congr 2
  · omega
  · omega
/-- A row that is turned round, i places from each end. -/
structure RevInv (o z : List Int) (i : Nat) : Prop where
  len : z.length = o.length
  at_ : ∀ p, p < o.length → z.getD p 0 = if p < i ∨ o.length ≤ p + i then o.getD (o.length - 1 - p) 0 else o.getD p 0
theorem RevInv.start (o : List Int) : RevInv o o 0 := ⟨rfl, fun p hp => by rw [if_neg (by omega)]⟩
theorem RevInv.step {o z : List Int} {i : Nat} (h : RevInv o z i) (hi : i + i + 1 < o.length) : RevInv o ((z.set i (o.getD (o.length - 1 - i) 0)).set (o.length - 1 - i) (o.getD i 0)) (i + 1) := by
  refine ⟨by simp [h.len], fun p hp => ?_⟩
  by_cases h1 : p = o.length - 1 - i
  · subst h1
    rw [getD_set_same _ _ _ (by simp [h.len]; omega), if_pos (by omega)]
    congr 1; omega
  · rw [getD_set_ne _ _ _ _ (fun e => h1 e.symm)]
    by_cases h2 : p = i
    · subst h2
      rw [getD_set_same _ _ _ (by rw [h.len]; omega), if_pos (by omega)]
    · rw [getD_set_ne _ _ _ _ (fun e => h2 e.symm), h.at_ p hp]
      by_cases h3 : p < i ∨ o.length ≤ p + i
      · rw [if_pos h3, if_pos (by omega)]
      · rw [if_neg h3, if_neg (by omega)]
theorem getD_ext {a b : List Int} (hl : a.length = b.length) (h : ∀ p, p < b.length → a.getD p 0 = b.getD p 0) : a = b := by
  apply List.ext_getElem hl
  intro i h1 h2
  have := h i h2
  rwa [List.getD_eq_getElem?_getD, List.getD_eq_getElem?_getD, List.getElem?_eq_getElem h1, List.getElem?_eq_getElem h2] at this
theorem RevInv.last {o z : List Int} {i : Nat} (h : RevInv o z i) (hi : o.length ≤ i + i + 1) : z = o.reverse := by
  apply getD_ext (by simp [h.len])
  intro p hp
  rw [List.length_reverse] at hp
  rw [h.at_ p hp, List.getD_eq_getElem?_getD (l := o.reverse), List.getElem?_reverse hp, ← List.getD_eq_getElem?_getD]
  by_cases h3 : p < i ∨ o.length ≤ p + i
  · rw [if_pos h3]
  · rw [if_neg h3]
    congr 1; omega
/-- The text of a number. -/
def decs (n : Nat) : List Int := if n = 0 then [48] else (decR n).reverse
end Go.Proofs.Ytdmahjbjlppeaaa
