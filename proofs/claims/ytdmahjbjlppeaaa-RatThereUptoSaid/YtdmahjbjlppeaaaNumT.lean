
/- The text of a whole number, and the number of a text. -/
import Derived.Test.YtdmahjbjlppeaaaNum9
import Derived.Test.YtdmahjbjlppeaaaA4
import Derived.Test.YtdmahjbjlppeaaaNum11
namespace Go.Proofs.Ytdmahjbjlppeaaa

theorem byte_ext {s t : ByteArray} (hs : s.size = t.size) (h : ∀ i, i < t.size → byteN s i = byteN t i) : s = t := by
  apply ByteArray.ext
  apply Array.ext hs
  intro i h1 h2
  have := h i h2
  rw [byteN_at h1, byteN_at h2] at this
  exact UInt8.toNat_inj.1 this
/-- A byte with which no text of a number goes on, that begins at the place a. -/
def BadF (s : ByteArray) (a i : Nat) : Prop := byteN s i < 48 ∨ 57 < byteN s i ∨ (i = a + 1 ∧ byteN s a = 48)
theorem first_badF (s : ByteArray) (a n : Nat) : (∀ j, a ≤ j → j < n → ¬ BadF s a j) ∨ ∃ i, a ≤ i ∧ i < n ∧ BadF s a i ∧ ∀ j, a ≤ j → j < i → ¬ BadF s a j := by
  induction n with
  | zero => exact .inl fun j _ hj => absurd hj (by omega)
  | succ n ih =>
    rcases ih with h | ⟨i, hi, hb, hn⟩
    · by_cases hb : a ≤ n ∧ BadF s a n
      · exact .inr ⟨n, hb.1, by omega, hb.2, h⟩
      · refine .inl fun j h0 hj => ?_
        by_cases e : j = n
        · subst e; exact fun hb2 => hb ⟨h0, hb2⟩
        · exact h j h0 (by omega)
    · exact .inr ⟨i, hi, by omega, hn⟩
theorem dvFrom_add (s : ByteArray) (a i k : Nat) : dvFrom s a (i + k) = dvFrom s a i * 10 ^ k + dvFrom s (a + i) k := by
  induction k with
  | zero => simp [dvFrom]
  | succ k ih =>
    rw [← Nat.add_assoc, dvFrom, dvFrom, ih, Nat.pow_succ, Nat.add_assoc a i k]
    grind
theorem decR_numR : ∀ (r : List Int), (∀ x, x ∈ r → 48 ≤ x ∧ x ≤ 57) → (∀ i d, r = i ++ [d] → 49 ≤ d) → decR (numR r) = r ∧ (r ≠ [] → 0 < numR r)
  | [], _, _ => by simp [numR, decR_zero]
  | x :: r, h, hl => by
    have hx := h x List.mem_cons_self
    rw [numR]
    by_cases hr : r = []
    · subst hr
      have := hl [] x rfl
      rw [numR, decR_pos (by omega), show (10 * 0 + (x.toNat - 48)) / 10 = 0 by omega, decR_zero]
      refine ⟨?_, fun _ => by omega⟩
      congr 1
      omega
    · obtain ⟨e, hp⟩ := decR_numR r (fun y hy => h y (List.mem_cons_of_mem _ hy)) fun i d hd => hl (x :: i) d (by rw [hd]; rfl)
      have hp := hp hr
      rw [decR_pos (by omega), show (10 * numR r + (x.toNat - 48)) / 10 = numR r by omega, e]
      refine ⟨?_, fun _ => by omega⟩
      congr 1
      omega
theorem decs_numR {l : List Int} (h0 : 0 < l.length) (h : ∀ x, x ∈ l → 48 ≤ x ∧ x ≤ 57) (hh : 1 < l.length → l.getD 0 0 ≠ 48) : decs (numR l.reverse) = l := by
  unfold decs
  match l, h0, h, hh with
  | [x], _, h, _ =>
    have hx := h x List.mem_cons_self
    simp only [List.reverse_singleton, numR]
    by_cases e : x = 48
    · subst e; rfl
    · rw [if_neg (by omega), decR_pos (by omega), show (10 * 0 + (x.toNat - 48)) / 10 = 0 by omega, decR_zero]
      simp
      omega
  | x :: y :: l, _, h, hh =>
    have hx := h x List.mem_cons_self
    have h48 := hh (by simp)
    simp only [List.getD_cons_zero] at h48
    obtain ⟨e, hp⟩ := decR_numR (x :: y :: l).reverse (fun z hz => h z (List.mem_reverse.1 hz)) fun i d hd => by
      have : x :: y :: l = d :: i.reverse := by
        have := congrArg List.reverse hd
        simpa using this
      injection this with h1 _
      omega
    rw [if_neg (by have := hp (by simp); omega), e, List.reverse_reverse]
/-- The bytes from a on. -/
def bts (s : ByteArray) (a n : Nat) : List Int := (List.range n).map fun i => (byteN s (a + i) : Int)
theorem bts_len (s : ByteArray) (a n : Nat) : (bts s a n).length = n := by simp [bts]
theorem bts_at {s : ByteArray} {a n i : Nat} (h : i < n) : (bts s a n).getD i 0 = byteN s (a + i) := by
  simp [bts, List.getD_eq_getElem?_getD, h]
theorem bts_mem {s : ByteArray} {a n : Nat} {x : Int} (h : x ∈ bts s a n) : ∃ i, i < n ∧ x = byteN s (a + i) := by
  simp only [bts, List.mem_map, List.mem_range] at h
  obtain ⟨i, hi, rfl⟩ := h
  exact ⟨i, hi, rfl⟩
theorem bts_dv (s : ByteArray) (a n : Nat) : numR (bts s a n).reverse = dvFrom s a n := by
  induction n with
  | zero => rfl
  | succ n ih =>
    have e : bts s a (n + 1) = bts s a n ++ [(byteN s (a + n) : Int)] := by simp [bts, List.range_succ]
    rw [e, List.reverse_append, List.reverse_singleton, List.singleton_append, numR, ih, dvFrom]
    rfl
theorem byteN_ge {s : ByteArray} {i : Nat} (h : s.size ≤ i) : byteN s i = 0 := by rw [byteN, dif_neg (by omega)]
theorem one_size : (⟨#[45]⟩ : ByteArray).size = 1 := rfl
theorem size_minus (t : ByteArray) : ((⟨#[45]⟩ : ByteArray) ++ t).size = t.size + 1 := by rw [ByteArray.size_append, one_size]; omega
theorem byteN_minus (t : ByteArray) (i : Nat) : byteN (⟨#[45]⟩ ++ t) (i + 1) = byteN t i := by
  by_cases h : i < t.size
  · have h2 : i + 1 < ((⟨#[45]⟩ : ByteArray) ++ t).size := by rw [size_minus]; omega
    rw [byteN_at h, byteN_at h2, ByteArray.getElem_append_right (by rw [one_size]; omega)]
    congr 1
  · rw [byteN_ge (s := t) (by omega), byteN_ge (by rw [size_minus]; omega)]
theorem byteN_minus0 (t : ByteArray) : byteN (⟨#[45]⟩ ++ t) 0 = 45 := by
  rw [byteN_at (by rw [size_minus]; omega), ByteArray.getElem_append_left (by rw [one_size]; omega)]
  rfl
/-- A good text is its number's text. -/
theorem good_pos {s : ByteArray} (h0 : 0 < s.size) (h : ∀ j, j < s.size → ¬ BadF s 0 j) : s = ztxt (dvFrom s 0 s.size : Nat) := by
  have e : decs (dvFrom s 0 s.size) = bts s 0 s.size := by
    rw [← bts_dv]
    refine decs_numR (by rw [bts_len]; exact h0) (fun x hx => ?_) fun h1 => ?_
    · obtain ⟨i, hi, rfl⟩ := bts_mem hx
      have := h i hi
      unfold BadF at this
      rw [Nat.zero_add]
      omega
    · rw [bts_len] at h1
      rw [bts_at (by omega)]
      have := h 1 h1
      unfold BadF at this
      show ((byteN s 0 : Nat) : Int) ≠ 48
      omega
  have hz : ztxt (dvFrom s 0 s.size : Nat) = strOfNums (bts s 0 s.size) := by
    unfold ztxt
    rw [if_neg (by omega), Int.natAbs_natCast, e]
  rw [hz]
  have hd : ∀ x, x ∈ bts s 0 s.size → 48 ≤ x ∧ x ≤ 57 := by rw [← e]; exact decs_lim _
  refine byte_ext (by rw [strOfNums_size, bts_len]) fun i hi => ?_
  rw [strOfNums_size, bts_len] at hi
  rw [byteN_str hd i (by rw [bts_len]; exact hi), bts_at hi, Nat.zero_add]
  omega
theorem good_neg {s : ByteArray} (h0 : 1 < s.size) (hm : byteN s 0 = 45) (hz0 : byteN s 1 ≠ 48) (h : ∀ j, 1 ≤ j → j < s.size → ¬ BadF s 1 j) : s = ztxt (zof true (dvFrom s 1 (s.size - 1))) := by
  have hdig : ∀ i, i < s.size - 1 → 48 ≤ byteN s (1 + i) ∧ byteN s (1 + i) ≤ 57 := fun i hi => by
    have := h (1 + i) (by omega) (by omega)
    unfold BadF at this
    omega
  have e : decs (dvFrom s 1 (s.size - 1)) = bts s 1 (s.size - 1) := by
    rw [← bts_dv]
    refine decs_numR (by rw [bts_len]; omega) (fun x hx => ?_) fun h1 => ?_
    · obtain ⟨i, hi, rfl⟩ := bts_mem hx
      have := hdig i hi
      omega
    · rw [bts_len] at h1
      rw [bts_at (by omega)]
      show ((byteN s 1 : Nat) : Int) ≠ 48
      omega
  have hp : 0 < dvFrom s 1 (s.size - 1) := by
    rcases Nat.eq_zero_or_pos (dvFrom s 1 (s.size - 1)) with h1 | h1
    · exfalso
      rw [h1] at e
      have h2 : bts s 1 (s.size - 1) = [48] := e.symm
      have h3 := bts_at (s := s) (a := 1) (i := 0) (n := s.size - 1) (by omega)
      rw [h2] at h3
      simp at h3
      omega
    · exact h1
  have hz : ztxt (zof true (dvFrom s 1 (s.size - 1))) = ⟨#[45]⟩ ++ strOfNums (bts s 1 (s.size - 1)) := by
    unfold ztxt
    rw [if_pos (by unfold zof; simp; omega), zof_abs, e]
  rw [hz]
  have hd : ∀ x, x ∈ bts s 1 (s.size - 1) → 48 ≤ x ∧ x ≤ 57 := by rw [← e]; exact decs_lim _
  refine byte_ext (by rw [size_minus, strOfNums_size, bts_len]; omega) fun i hi => ?_
  rw [size_minus, strOfNums_size, bts_len] at hi
  match i with
  | 0 => rw [byteN_minus0, hm]
  | i + 1 =>
    rw [byteN_minus, byteN_str hd i (by rw [bts_len]; omega), bts_at (by omega), Nat.add_comm]
    omega
theorem decs_inj {a b : Nat} (h : strOfNums (decs a) = strOfNums (decs b)) : a = b := by
  have hl : (decs a).length = (decs b).length := by rw [← strOfNums_size, ← strOfNums_size, h]
  have : decs a = decs b := by
    apply getD_ext hl
    intro i hi
    have h1 := byteN_str (decs_lim a) i (by omega)
    have h2 := byteN_str (decs_lim b) i hi
    rw [h, h2] at h1
    have d1 : ∀ n, i < (decs n).length → 48 ≤ (decs n).getD i 0 := fun n hn => by
      rw [List.getD_eq_getElem?_getD, List.getElem?_eq_getElem hn, Option.getD_some]
      exact (decs_lim n _ (List.getElem_mem hn)).1
    have := d1 a (by omega)
    have := d1 b hi
    omega
  rw [← numR_decs a, ← numR_decs b, this]
theorem dec_head (n : Nat) : byteN (strOfNums (decs n)) 0 ≠ 45 := by
  have hl := decs_pos n
  rw [byteN_str (decs_lim n) 0 hl, List.getD_eq_getElem?_getD, List.getElem?_eq_getElem hl, Option.getD_some]
  have := decs_lim n _ (List.getElem_mem hl)
  omega
theorem ztxt_inj {a b : Int} (h : ztxt a = ztxt b) : a = b := by
  unfold ztxt at h
  by_cases ha : a < 0 <;> by_cases hb : b < 0
  · rw [if_pos ha, if_pos hb] at h
    have : strOfNums (decs a.natAbs) = strOfNums (decs b.natAbs) := by
      refine byte_ext ?_ fun i _ => ?_
      · have := congrArg ByteArray.size h; rw [size_minus, size_minus] at this; omega
      · rw [← byteN_minus, h, byteN_minus]
    have := decs_inj this
    omega
  · rw [if_pos ha, if_neg hb] at h
    exact absurd (by rw [← h, byteN_minus0]) (dec_head b.natAbs)
  · rw [if_neg ha, if_pos hb] at h
    exact absurd (by rw [h, byteN_minus0]) (dec_head a.natAbs)
  · rw [if_neg ha, if_neg hb] at h
    have := decs_inj h
    omega
/-- What a number's text is like. -/
theorem ztxt_pos {z : Int} (h : 0 ≤ z) : 0 < (ztxt z).size ∧ byteN (ztxt z) 0 ≠ 45 ∧ ∀ j, j < (ztxt z).size → ¬ BadF (ztxt z) 0 j := by
  unfold ztxt
  rw [if_neg (by omega)]
  refine ⟨by rw [strOfNums_size]; exact decs_pos _, dec_head _, fun j hj => ?_⟩
  have := good_decs z.natAbs j hj
  unfold BadAt at this
  unfold BadF
  rw [Nat.zero_add]
  exact this
theorem ztxt_neg {z : Int} (h : z < 0) : 1 < (ztxt z).size ∧ byteN (ztxt z) 0 = 45 ∧ byteN (ztxt z) 1 ≠ 48 ∧ ∀ j, 1 ≤ j → j < (ztxt z).size → ¬ BadF (ztxt z) 1 j := by
  unfold ztxt
  rw [if_pos h]
  have hl := decs_pos z.natAbs
  have h1 : byteN (strOfNums (decs z.natAbs)) 0 ≠ 48 := by
    rw [byteN_str (decs_lim _) 0 hl]
    have hd : 48 ≤ (decs z.natAbs).getD 0 0 := by
      rw [List.getD_eq_getElem?_getD, List.getElem?_eq_getElem hl, Option.getD_some]
      exact (decs_lim _ _ (List.getElem_mem hl)).1
    have hne : (decs z.natAbs).getD 0 0 ≠ 48 := by
      unfold decs
      rw [if_neg (by omega)]
      obtain ⟨i, d, e, h2, _⟩ := decR_last (n := z.natAbs) (by omega)
      rw [e]
      simp
      omega
    omega
  refine ⟨by rw [size_minus, strOfNums_size]; omega, byteN_minus0 _, by rw [show (1 : Nat) = 0 + 1 from rfl, byteN_minus]; exact h1, fun j h0 hj => ?_⟩
  obtain ⟨i, rfl⟩ : ∃ i, j = i + 1 := ⟨j - 1, by omega⟩
  rw [size_minus] at hj
  have := good_decs z.natAbs i (by omega)
  unfold BadAt at this
  unfold BadF
  rw [byteN_minus, show (1 : Nat) = 0 + 1 from rfl, byteN_minus]
  omega
end Go.Proofs.Ytdmahjbjlppeaaa
