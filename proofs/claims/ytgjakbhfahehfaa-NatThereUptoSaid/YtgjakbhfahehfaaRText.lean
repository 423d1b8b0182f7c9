/- The reference's Text. -/
import Derived.Test.YtgjakbhfahehfaaRGcd
import Derived.Test.YtgjakbhfahehfaaText
namespace Go.Proofs.Ytgjakbhfahehfaa
open Go.RowKit

theorem strOfNums_append (a b : List Int) : strOfNums (a ++ b) = strOfNums a ++ strOfNums b := by
  apply ByteArray.ext
  rw [ByteArray.data_append]
  simp [strOfNums]
theorem conv1 (w : World) (d : Int) : (convert 57 9 (.slice (some ⟨w.heap.size, 0, none⟩) 1 1)).run Try.prog (w.alloc (.cells #[.int .u8 d] 5)) = .ok (.string (strOfNums [d])) (w.alloc (.cells #[.int .u8 d] 5)) :=
  run_convert_bytes_arg (P := Try.prog) _ 57 5 Try.underlying57 Try.underlying5 w.heap.size 0 1 1 [d] rfl (fun i hi => by
    have : i = 0 := by omega
    subst this
    rw [World.cell?_alloc_at _ _ _ _ rfl]
    rfl) 9 Try.underlying9

set_option maxHeartbeats 2000000 in
theorem rtext_pos (w : World) (A : Option Addr) (n c : Nat) (l : List Int) (h : Sl w A n c l) (h0 : 0 < val l) (hs : n ≤ 8796093022208) :
    Calls Try.prog 17 #[.slice A n c] w (RetText (val l) w) := by
  have hp : 0 < (digs (val l)).length := by
    rcases Nat.eq_zero_or_pos (digs (val l)).length with e | e
    · have := (digs_nil_iff (val l)).1 (List.eq_nil_of_length_eq_zero e); omega
    · exact e
  have hne : (((digs (val l)).length : Int) == 0) = false := beq_eq_false_iff_ne.2 (by omega)
  have hdl : (decR (val l)).length ≤ 87960930222080 := Nat.le_trans (decR_len_val h.lim) (by have := h.len; omega)
  have hll : (digs (val l)).length ≤ 8796093022208 := Nat.le_trans (digs_val_len h.lim) (by have := h.len; omega)
  have HN := Lib.hid (show ∀ g, g ≤ val l → (digs g).length ≤ 35184372088832 from fun g hg => Nat.le_trans (digs_len_mono hg) (by omega))
  go_enter Try.func17, Try.ntmps17
  go_wp2_with fail
  refine (rnorm_calls _ _ _ _ _ h (by omega)).mono ?_
  rintro e w1 ⟨A1, c1, rfl, hO, hB⟩
  clear h
  go_wp2
  go_loopg [3, 4] (val l) (fun g av sv wr => ∃ (Aa : Option Addr) (ca : Nat) (S : List Int), av = .slice Aa (digs g).length ca ∧ sv = .string (strOfNums S) ∧ Own wr w.heap.size Aa (digs g).length ca (digs g) ∧ Hid (decR (val l) = S.reverse ++ decR g) ∧ Hid (g ≤ val l) ∧ Below w.heap.size w wr)
  case atStart => exact ⟨_, _, [], rfl, rfl, hO, rfl, Nat.le_refl _, hB⟩
  case round =>
    clear hO hB
    obtain ⟨Aa, ca, S, rfl, rfl, hO, hdec, hgle, hB⟩ := hrel
    rcases Nat.eq_zero_or_pos gk with hg | hg
    · subst hg
      have e0 := Lib.hid (show (digs 0).length = 0 by rw [digs_zero]; rfl)
      have e1 := hdec.out
      rw [decR_zero, List.append_nil] at e1
      have hfin := Lib.hid (show S = decs (val l) by rw [decs, if_neg (by omega), e1, List.reverse_reverse])
      clear e1
      rw [e0.out]
      go_wp2
      go_ret
      exact ⟨by rw [hfin.out]; rfl, hB⟩
    · have hgp : 0 < (digs gk).length := by
        rcases Nat.eq_zero_or_pos (digs gk).length with e | e
        · have := (digs_nil_iff gk).1 (List.eq_nil_of_length_eq_zero e); omega
        · exact e
      have hsh := small_calls wr Aa _ ca _ 1000000000 hO.sl (by omega) (by omega) (HN.out _ hgle.out)
      rw [val_digs] at hsh
      replace hsh := Lib.hid hsh
      go_wp2_with fail
      refine hsh.out.mono ?_
      rintro e w2 ⟨Aq, cq, rfl, hq, hB2⟩
      clear hsh
      rw [show (1000000000 : Int).toNat = 1000000000 from rfl] at hq ⊢
      have hBb := below_step hB hB2
      have hq2 := hq.base hB.size
      have hm := Nat.div_add_mod gk 1000000000
      have hr : gk % 1000000000 < 1000000000 := Nat.mod_lt _ (by omega)
      have hqlt : gk / 1000000000 < gk := Nat.div_lt_self hg (by omega)
      generalize gk / 1000000000 = q at *
      generalize gk % 1000000000 = r at *
      have hqle := Lib.hid (show q ≤ val l by have := hgle.out; omega)
      go_wp2
      go_loopw [6, 7, 8] (fun rv pv kv wz => ∃ (k rr : Nat) (P : List Int), k ≤ 9 ∧ kv = .int .i64 k ∧ rv = .int .u64 rr ∧ pv = .string (strOfNums P) ∧ rr < 4294967296 ∧ Hid (rr < 10 ^ (9 - k)) ∧ Hid (decR (val l) = S.reverse ++ P.reverse ++ decR (q * 10 ^ (9 - k) + rr)) ∧ Own wz w.heap.size Aq (digs q).length cq (digs q) ∧ Below w.heap.size w wz) (fun _ _ kv _ => 9 - (intOf kv).toNat)
      case atStart => exact ⟨0, r, [], by omega, rfl, by go_num, rfl, by omega, hr, by unfold Hid; rw [List.reverse_nil, List.append_nil, hdec.out, ← hm, Nat.mul_comm], hq2, hBb⟩
      case round =>
        clear hq2 hBb hdec hO
        obtain ⟨k, rr, P, hk, rfl, rfl, rfl, hr32, hrr, hdec, hq2, hBz⟩ := hrel
        by_cases hgo : k < 9 ∧ (0 < q ∨ 0 < rr)
        · obtain ⟨hk9, hqr⟩ := hgo
          obtain ⟨hch, hch2⟩ := decR_chunk hk9 hrr.out hqr
          rw [hch] at hdec
          have hch := Lib.hid (show decR (val l) = S.reverse ++ ([48 + (rr : Int) % 10] ++ P).reverse ++ decR (q * 10 ^ (9 - (k + 1)) + rr / 10) by
            rw [hdec.out, List.reverse_append, List.reverse_singleton, List.append_assoc, List.append_assoc, List.append_assoc]; rfl)
          replace hch2 := Lib.hid hch2
          have hszP : (strOfNums P).size ≤ 87960930222080 := by rw [strOfNums_size]; have := congrArg List.length hdec.out; simp at this; omega
          by_cases hrp : 0 < rr
          · have hconv := conv1 wr (48 + (rr : Int) % 10)
            have hcat := (strOfNums_append [48 + (rr : Int) % 10] P).symm
            have hsz1 : (strOfNums [48 + (rr : Int) % 10]).size ≤ 1 := by rw [strOfNums_size]; simp
            go_wp2
            go_roundw
            case rel => exact ⟨k + 1, rr / 10, _, by omega, by go_num, by go_num, rfl, by omega, hch2, hch, hq2.alloc _, hBz.alloc hBz.size _⟩
            case measure => simp [intOf] <;> omega
          · obtain rfl : rr = 0 := by omega
            have hconv := conv1 wr 48
            have hcat := (strOfNums_append [48] P).symm
            have hsz1 : (strOfNums [48]).size ≤ 1 := by rw [strOfNums_size]; simp
            have hqlen : 0 < (digs q).length := by
              rcases Nat.eq_zero_or_pos (digs q).length with e | e
              · have := (digs_nil_iff q).1 (List.eq_nil_of_length_eq_zero e); omega
              · exact e
            go_wp2
            go_roundw
            case rel => exact ⟨k + 1, 0, _, by omega, by go_num, by go_num, rfl, by omega, hch2, hch, hq2.alloc _, hBz.alloc hBz.size _⟩
            case measure => simp [intOf] <;> omega
        · have hfin := Lib.hid (show decR (val l) = (P ++ S).reverse ++ decR q by
            rw [hdec.out, List.reverse_append]
            congr 2
            rcases Nat.lt_or_ge k 9 with h9 | h9
            · have h1 : q = 0 := by omega
              have h2 : rr = 0 := by omega
              rw [h1, h2]; simp
            · have hk9 : 9 - k = 0 := by omega
              have := hrr.out
              rw [hk9, Nat.pow_zero] at this
              rw [hk9, Nat.pow_zero, Nat.mul_one]; omega)
          have hcat := (strOfNums_append P S).symm
          have hszP : (strOfNums P).size ≤ 87960930222080 := by rw [strOfNums_size]; have := congrArg List.length hdec.out; simp at this; omega
          have hszS : (strOfNums S).size ≤ 87960930222080 := by rw [strOfNums_size]; have := congrArg List.length hdec.out; simp at this; omega
          by_cases h9 : k < 9
          · obtain ⟨rfl, rfl⟩ : q = 0 ∧ rr = 0 := by omega
            have e0 := Lib.hid (show (digs 0).length = 0 by rw [digs_zero]; rfl)
            clear hgo
            rw [e0.out]
            rw [e0.out] at hq2
            go_wp2
            go_roundg 0
            case rel => exact ⟨Aq, cq, _, by rw [e0.out], rfl, by rw [e0.out]; exact hq2, hfin, hqle, hBz⟩
            case measure => exact hqlt
          · clear hgo
            go_wp2
            go_roundg q
            case rel => exact ⟨Aq, cq, _, rfl, rfl, hq2, hfin, hqle, hBz⟩
            case measure => exact hqlt
end Go.Proofs.Ytgjakbhfahehfaa
