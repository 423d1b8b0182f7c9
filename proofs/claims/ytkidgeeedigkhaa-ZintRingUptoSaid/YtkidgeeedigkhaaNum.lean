/- Numbers as limbs of 32 bits: the value of a list of limbs, the one list without noughts at its end, and how both go together. No program, no memory. -/
namespace Go.Proofs.Ytkidgeeedigkhaa

/-- The limbs are words of 32 bits. -/
def Lim (l : List Int) : Prop := ∀ x, x ∈ l → 0 ≤ x ∧ x < 4294967296
/-- The number that the limbs make. -/
def val : List Int → Nat
  | [] => 0
  | x :: xs => x.toNat + 4294967296 * val xs
/-- The limbs of a number, none of them a nought at the end. -/
def digs (n : Nat) : List Int := if h : n = 0 then [] else ((n % 4294967296 : Nat) : Int) :: digs (n / 4294967296)
termination_by n
decreasing_by omega

theorem digs_zero : digs 0 = [] := by rw [digs]; simp
theorem digs_pos {n : Nat} (h : 0 < n) : digs n = ((n % 4294967296 : Nat) : Int) :: digs (n / 4294967296) := by rw [digs, dif_neg (by omega)]

theorem Lim.nil : Lim [] := fun _ h => by simp at h
theorem Lim.cons {x : Int} {l : List Int} (h0 : 0 ≤ x) (h1 : x < 4294967296) (h : Lim l) : Lim (x :: l) := fun y hy => by
  rcases List.mem_cons.1 hy with rfl | hy
  · exact ⟨h0, h1⟩
  · exact h y hy
theorem Lim.head {x : Int} {l : List Int} (h : Lim (x :: l)) : 0 ≤ x ∧ x < 4294967296 := h x (by simp)
theorem Lim.tail {x : Int} {l : List Int} (h : Lim (x :: l)) : Lim l := fun y hy => h y (by simp [hy])
theorem Lim.append {a b : List Int} (ha : Lim a) (hb : Lim b) : Lim (a ++ b) := fun x hx => by
  rcases List.mem_append.1 hx with h | h
  · exact ha x h
  · exact hb x h
theorem Lim.left {a b : List Int} (h : Lim (a ++ b)) : Lim a := fun x hx => h x (by simp [hx])
theorem Lim.right {a b : List Int} (h : Lim (a ++ b)) : Lim b := fun x hx => h x (by simp [hx])
theorem Lim.take {a : List Int} (h : Lim a) (n : Nat) : Lim (a.take n) := fun x hx => h x (List.mem_of_mem_take hx)
theorem Lim.drop {a : List Int} (h : Lim a) (n : Nat) : Lim (a.drop n) := fun x hx => h x (List.mem_of_mem_drop hx)
theorem Lim.getD {a : List Int} (h : Lim a) (i : Nat) : 0 ≤ a.getD i 0 ∧ a.getD i 0 < 4294967296 := by
  by_cases hi : i < a.length
  · rw [List.getD_eq_getElem?_getD, List.getElem?_eq_getElem hi]
    exact h _ (by simp)
  · rw [List.getD_eq_getElem?_getD, List.getElem?_eq_none (by omega)]
    simp
theorem Lim.set {a : List Int} (h : Lim a) (i : Nat) {x : Int} (h0 : 0 ≤ x) (h1 : x < 4294967296) : Lim (a.set i x) := fun y hy => by
  rcases List.mem_or_eq_of_mem_set hy with hy | rfl
  · exact h y hy
  · exact ⟨h0, h1⟩
theorem Lim.replicate (n : Nat) : Lim (List.replicate n 0) := fun x hx => by
  obtain ⟨_, rfl⟩ := List.mem_replicate.1 hx
  omega
theorem Lim.one {x : Int} (h0 : 0 ≤ x) (h1 : x < 4294967296) : Lim [x] := Lim.cons h0 h1 Lim.nil

theorem digs_lim (n : Nat) : Lim (digs n) := by
  induction n using Nat.strongRecOn with
  | ind n ih =>
    by_cases h : n = 0
    · subst h; rw [digs_zero]; exact Lim.nil
    · rw [digs_pos (by omega)]
      exact Lim.cons (by omega) (by omega) (ih _ (by omega))
theorem val_digs (n : Nat) : val (digs n) = n := by
  induction n using Nat.strongRecOn with
  | ind n ih =>
    by_cases h : n = 0
    · subst h; rw [digs_zero]; rfl
    · rw [digs_pos (by omega), val, ih _ (by omega)]
      omega
theorem digs_nil_iff (n : Nat) : digs n = [] ↔ n = 0 := by
  constructor
  · intro h; have := val_digs n; rw [h] at this; exact this.symm
  · rintro rfl; exact digs_zero

theorem val_append (a b : List Int) : val (a ++ b) = val a + 4294967296 ^ a.length * val b := by
  induction a with
  | nil => simp [val]
  | cons x xs ih => simp only [List.cons_append, val, ih, List.length_cons, Nat.pow_succ]; grind
theorem val_lt {a : List Int} (h : Lim a) : val a < 4294967296 ^ a.length := by
  induction a with
  | nil => simp [val]
  | cons x xs ih =>
    have := ih h.tail
    have hx := h.head
    simp only [val, List.length_cons, Nat.pow_succ]
    have e : 4294967296 ^ xs.length * 4294967296 = 4294967296 * 4294967296 ^ xs.length := Nat.mul_comm _ _
    omega
theorem val_replicate (n : Nat) : val (List.replicate n 0) = 0 := by
  induction n with
  | zero => rfl
  | succ n ih => rw [List.replicate_succ, val, ih]; rfl
theorem val_one (x : Int) : val [x] = x.toNat := by simp [val]
theorem val_take_drop (a : List Int) (n : Nat) (h : n ≤ a.length) : val a = val (a.take n) + 4294967296 ^ n * val (a.drop n) := by
  have := val_append (a.take n) (a.drop n)
  rw [List.take_append_drop, List.length_take, Nat.min_eq_left h] at this
  exact this
theorem val_take_succ (a : List Int) (n : Nat) (h : n < a.length) : val (a.take (n + 1)) = val (a.take n) + 4294967296 ^ n * (a.getD n 0).toNat := by
  rw [List.take_succ_eq_append_getElem h, val_append, List.length_take, Nat.min_eq_left (by omega), val_one, List.getD_eq_getElem?_getD, List.getElem?_eq_getElem h]
  rfl
theorem val_drop_eq (a : List Int) (n : Nat) (h : n < a.length) : val (a.drop n) = (a.getD n 0).toNat + 4294967296 * val (a.drop (n + 1)) := by
  rw [List.drop_eq_getElem_cons h, val, List.getD_eq_getElem?_getD, List.getElem?_eq_getElem h]
  rfl
theorem val_drop_ge (a : List Int) (n : Nat) (h : a.length ≤ n) : val (a.drop n) = 0 := by
  rw [List.drop_eq_nil_of_le h]; rfl

/-- Without a nought at the end. -/
def Canon (l : List Int) : Prop := ∀ x, l.getLast? = some x → x ≠ 0
theorem digs_canon (n : Nat) : Canon (digs n) := by
  induction n using Nat.strongRecOn with
  | ind n ih =>
    by_cases h : n = 0
    · subst h; rw [digs_zero]; intro x hx; simp at hx
    · rw [digs_pos (by omega)]
      intro x hx
      by_cases h2 : n / 4294967296 = 0
      · rw [h2, digs_zero] at hx
        simp at hx
        omega
      · have := ih _ (by omega : n / 4294967296 < n)
        have hne : digs (n / 4294967296) ≠ [] := fun e => h2 ((digs_nil_iff _).1 e)
        rw [List.getLast?_cons, ] at hx
        apply this x
        cases hd : digs (n / 4294967296) with
        | nil => exact absurd hd hne
        | cons y ys => rw [hd] at hx; simp [List.getLast?_cons] at hx ⊢; exact hx
theorem val_pos_of_canon {l : List Int} (hl : Lim l) (hc : Canon l) (hne : l ≠ []) : 0 < val l := by
  obtain ⟨xs, x, rfl⟩ : ∃ xs x, l = xs ++ [x] := ⟨l.dropLast, l.getLast hne, (List.dropLast_concat_getLast hne).symm⟩
  have h1 : x ≠ 0 := hc x (by simp)
  have h2 := hl x (by simp)
  rw [val_append, val_one]
  have : 0 < 4294967296 ^ xs.length * x.toNat := Nat.mul_pos (Nat.pow_pos (by omega)) (by omega)
  omega
/-- A list of limbs without a nought at the end is just the limbs of its number. -/
theorem canon_digs : ∀ {l : List Int}, Lim l → Canon l → l = digs (val l)
  | [], _, _ => digs_zero.symm
  | x :: xs, hl, hc => by
    have hx := hl.head
    have hcx : Canon xs := fun y hy => hc y (by
      cases xs with
      | nil => simp at hy
      | cons z zs => simpa [List.getLast?_cons] using hy)
    have ih := canon_digs hl.tail hcx
    have hp := val_pos_of_canon hl hc (by simp)
    rw [digs_pos hp]
    simp only [val]
    have e1 : (x.toNat + 4294967296 * val xs) % 4294967296 = x.toNat := by omega
    have e2 : (x.toNat + 4294967296 * val xs) / 4294967296 = val xs := by omega
    rw [e1, e2, ← ih, Int.toNat_of_nonneg hx.1]
theorem canon_snoc {xs : List Int} {x : Int} (h : x ≠ 0) : Canon (xs ++ [x]) := fun y hy => by
  simp at hy; subst hy; exact h
theorem canon_nil : Canon [] := fun x hx => by simp at hx
theorem val_snoc_zero (xs : List Int) : val (xs ++ [0]) = val xs := by rw [val_append]; simp [val]

theorem digs_len_le {n k : Nat} (h : n < 4294967296 ^ k) : (digs n).length ≤ k := by
  induction k generalizing n with
  | zero => have : n = 0 := by simpa using h
            subst this; rw [digs_zero]; simp
  | succ k ih =>
    by_cases hn : n = 0
    · subst hn; rw [digs_zero]; simp
    · rw [digs_pos (by omega), List.length_cons]
      have : n / 4294967296 < 4294967296 ^ k := by
        rw [Nat.pow_succ] at h
        exact Nat.div_lt_of_lt_mul (by rw [Nat.mul_comm]; exact h)
      have := ih this
      omega
theorem digs_val_len {l : List Int} (h : Lim l) : (digs (val l)).length ≤ l.length := digs_len_le (val_lt h)
theorem digs_len_mono {m n : Nat} (h : m ≤ n) : (digs m).length ≤ (digs n).length :=
  digs_len_le (Nat.lt_of_le_of_lt h (by have := val_lt (digs_lim n); rwa [val_digs] at this))
theorem digs_lt_pow (n : Nat) : n < 4294967296 ^ (digs n).length := by have := val_lt (digs_lim n); rwa [val_digs] at this
theorem pow_le_of_canon {l : List Int} (hl : Lim l) (hc : Canon l) (hne : l ≠ []) : 4294967296 ^ (l.length - 1) ≤ val l := by
  obtain ⟨xs, x, rfl⟩ : ∃ xs x, l = xs ++ [x] := ⟨l.dropLast, l.getLast hne, (List.dropLast_concat_getLast hne).symm⟩
  have h1 : x ≠ 0 := hc x (by simp)
  have h2 := hl x (by simp)
  rw [val_append, val_one, List.length_append, List.length_singleton, Nat.add_sub_cancel]
  have : 4294967296 ^ xs.length * 1 ≤ 4294967296 ^ xs.length * x.toNat := Nat.mul_le_mul_left _ (by omega)
  omega
theorem pow_le_digs {n : Nat} (h : 0 < n) : 4294967296 ^ ((digs n).length - 1) ≤ n := by
  have := pow_le_of_canon (digs_lim n) (digs_canon n) (fun e => by rw [digs_nil_iff] at e; omega)
  rwa [val_digs] at this
theorem digs_inj {m n : Nat} (h : digs m = digs n) : m = n := by rw [← val_digs m, h, val_digs]
theorem digs_len_lt_iff {n k : Nat} : (digs n).length ≤ k ↔ n < 4294967296 ^ k := by
  constructor
  · intro h
    exact Nat.lt_of_lt_of_le (digs_lt_pow n) (Nat.pow_le_pow_right (by omega) h)
  · exact digs_len_le

/-- The list without the noughts at its end. -/
def strip : List Int → List Int
  | [] => []
  | x :: xs => match strip xs with
    | [] => if x = 0 then [] else [x]
    | y :: ys => x :: y :: ys
theorem strip_digs : ∀ {l : List Int}, Lim l → strip l = digs (val l)
  | [], _ => digs_zero.symm
  | x :: xs, h => by
    have ih := strip_digs h.tail
    have hx := h.head
    simp only [strip, val]
    cases hs : strip xs with
    | nil =>
      rw [hs] at ih
      have h0 : val xs = 0 := (digs_nil_iff _).1 ih.symm
      rw [h0]
      by_cases hx0 : x = 0
      · subst hx0; simp [digs_zero]
      · rw [if_neg hx0, digs_pos (by omega)]
        have e1 : (x.toNat + 4294967296 * 0) % 4294967296 = x.toNat := by omega
        have e2 : (x.toNat + 4294967296 * 0) / 4294967296 = 0 := by omega
        rw [e1, e2, digs_zero, Int.toNat_of_nonneg hx.1]
    | cons y ys =>
      rw [hs] at ih
      have h0 : val xs ≠ 0 := fun e => by rw [e, digs_zero] at ih; simp at ih
      rw [digs_pos (by omega)]
      have e1 : (x.toNat + 4294967296 * val xs) % 4294967296 = x.toNat := by omega
      have e2 : (x.toNat + 4294967296 * val xs) / 4294967296 = val xs := by omega
      rw [e1, e2, ← ih, Int.toNat_of_nonneg hx.1]

theorem val_take_succ' (a : List Int) (n : Nat) : val (a.take (n + 1)) = val (a.take n) + 4294967296 ^ n * (a.getD n 0).toNat := by
  by_cases h : n < a.length
  · exact val_take_succ a n h
  · rw [List.take_of_length_le (by omega), List.take_of_length_le (by omega), List.getD_eq_getElem?_getD, List.getElem?_eq_none (by omega)]; simp
theorem val_set_take (o : List Int) (k : Nat) (x : Int) (h : k < o.length) : val ((o.set k x).take (k + 1)) = val (o.take k) + 4294967296 ^ k * x.toNat := by
  rw [val_take_succ _ _ (by simpa using h)]
  congr 2
  · rw [List.take_set_of_le (Nat.le_refl _)]
  · simp [List.getD_eq_getElem?_getD, h]
theorem getD_set_same (o : List Int) (k : Nat) (x : Int) (h : k < o.length) : (o.set k x).getD k 0 = x := by simp [List.getD_eq_getElem?_getD, h]
theorem getD_set_ne (o : List Int) (k j : Nat) (x : Int) (h : k ≠ j) : (o.set k x).getD j 0 = o.getD j 0 := by simp [List.getD_eq_getElem?_getD, List.getElem?_set_ne h]

theorem val_lt_of_top {X Y : List Int} (hX : Lim X) (i : Nat) (hxl : i < X.length) (hyl : i < Y.length) (hY : Lim Y) (he : val (X.drop (i + 1)) = val (Y.drop (i + 1))) (hlt : X.getD i 0 < Y.getD i 0) : val X < val Y := by
  have e1 := val_take_drop X i (by omega)
  have e2 := val_take_drop Y i (by omega)
  have d1 := val_drop_eq X i hxl
  have d2 := val_drop_eq Y i hyl
  have t1 := val_lt (hX.take i)
  rw [List.length_take, Nat.min_eq_left (by omega)] at t1
  have hx := hX.getD i
  have hy := hY.getD i
  have hd : val (X.drop i) + 1 ≤ val (Y.drop i) := by omega
  have hm := Nat.mul_le_mul_left (4294967296 ^ i) hd
  rw [Nat.mul_add, Nat.mul_one] at hm
  omega
def cmpN (a b : Nat) : Int := if a < b then -1 else if a = b then 0 else 1
theorem cmpN_lt {a b : Nat} (h : a < b) : cmpN a b = -1 := by simp [cmpN, h]
theorem cmpN_gt {a b : Nat} (h : b < a) : cmpN a b = 1 := by simp [cmpN]; omega
theorem cmpN_eq (a : Nat) : cmpN a a = 0 := by simp [cmpN]
theorem lt_of_digs_len {a b : Nat} (h : (digs a).length < (digs b).length) : a < b := by
  rcases Nat.lt_or_ge a b with h1 | h1
  · exact h1
  · have := digs_len_mono h1; omega
end Go.Proofs.Ytkidgeeedigkhaa
