/- nat.Read of a good text. -/
import Derived.Test.YtgjakbhfahehfaaRead
namespace Go.Proofs.Ytgjakbhfahehfaa
open Go.RowKit

/-- A number, place 0, no error. -/
def RetRead (N : Nat) (w : World) (e : Ending) (w' : World) : Prop := ∃ A c, e = .returned (.tuple #[.slice A (digs N).length c, .int .i64 0, .int .i64 0]) ∧ Own w' w.heap.size A (digs N).length c (digs N) ∧ Below w.heap.size w w'

set_option maxHeartbeats 2000000 in
theorem read_ok (s : ByteArray) (w : World) (hm : s.size ≤ 65536) (h0 : 0 < s.size) (hgood : ∀ j, j < s.size → ¬ BadAt s j) : Calls Try.prog 14 #[.string s] w (RetRead (dv s s.size) w) := by
  have HG := Lib.hid hgood
  have HD := Lib.hid (show ∀ j, j < s.size → 48 ≤ byteN s j ∧ byteN s j ≤ 57 from fun j hj => by have := hgood j hj; unfold BadAt at this; omega)
  clear hgood
  have hne : s.toList.isEmpty = false := by
    rw [List.isEmpty_eq_false_iff]
    intro e
    rw [ByteArray.toList_eq] at e
    have : s.size = 0 := by show s.data.size = 0; rw [← Array.length_toList, e]; rfl
    omega
  go_enter Try.func14, Try.ntmps14
  go_wp2
  go_loopw [] (fun w' => ∃ pos : Nat, pos ≤ s.size ∧ w' = w.iter s pos) (fun w' => s.size - w'.iterPos w.heap.size)
  case atStart => exact ⟨0, Nat.zero_le _, rfl⟩
  case round =>
    obtain ⟨pos, hpos, rfl⟩ := hrel
    by_cases hp : pos < s.size
    · have hb0 := byteN_at hp
      have hg := HG.out pos hp
      unfold BadAt at hg
      have ha : (s[pos]'hp).toNat < 128 := by rw [← hb0]; omega
      have hnx : ∀ ty, (Instr.next (.pointer (some ⟨w.heap.size, 0, none⟩)) true ty).run Try.prog (w.iter s pos) = _ := fun ty => run_next_ascii w s pos ty hp ha
      have h1 : 48 ≤ (s[pos]'hp).toNat := by rw [← hb0]; omega
      have h2 : (s[pos]'hp).toNat ≤ 57 := by rw [← hb0]; omega
      by_cases hp1 : pos = 1
      · subst hp1
        have h3 : (((s[0]'h0).toNat : Int) == 48) = false := beq_eq_false_iff_ne.2 (by have := byteN_at h0; omega)
        clear hg hb0
        go_wp2
        go_roundw
        case rel => exact ⟨2, by omega, rfl⟩
        case measure => simp; omega
      · have h3 : ((pos : Int) == 1) = false := beq_eq_false_iff_ne.2 (by omega)
        clear hg hb0
        go_wp2
        go_roundw
        case rel => exact ⟨pos + 1, by omega, rfl⟩
        case measure => simp; omega
    · obtain rfl : pos = s.size := by omega
      have hnx : ∀ ty, (Instr.next (.pointer (some ⟨w.heap.size, 0, none⟩)) true ty).run Try.prog (w.iter s s.size) = _ := fun ty => run_next_end w s s.size ty hp
      have hB := below_iter w s s.size
      go_wp2
      clear hnx hp hpos
      go_loopw [7, 8] (fun ov av wr => ∃ (k n : Nat) (A : Option Addr) (c : Nat) (l : List Int), k ≤ 7282 ∧ n ≤ k ∧ av = .int .i64 ((9 * k : Nat) : Int) ∧ ov = .slice A n c ∧ Own wr w.heap.size A n c l ∧ Hid (val l = dv s (min (9 * k) s.size)) ∧ Hid (9 * k < s.size + 9) ∧ Below w.heap.size w wr) (fun _ av _ => s.size + 9 - (intOf av).toNat)
      case atStart => exact ⟨0, 0, none, 0, [], by omega, by omega, rfl, rfl, Own.nil _ _, by simp [Hid, val, dv], by unfold Hid; omega, hB⟩
      case round =>
        clear hB
        obtain ⟨k, n, A, c, l, hk, hn, rfl, rfl, hO, hval, hk9, hB⟩ := hrel
        generalize hat : 9 * k = a at *
        by_cases hlt : a < s.size
        · go_wp2
          go_loopw [9, 10, 11] (fun mv vv iv wq => ∃ (j : Nat) (m v : Int), j ≤ 9 ∧ iv = .int .i64 ((a : Int) + j) ∧ mv = .int .u32 m ∧ vv = .int .u32 v ∧ Hid (m = ((10 ^ j : Nat) : Int)) ∧ Hid (v = (dvFrom s a j : Int)) ∧ a + j ≤ s.size ∧ wq = wr) (fun _ _ iv _ => a + 9 - (intOf iv).toNat)
          case atStart => exact ⟨0, 1, 0, by omega, by go_num, rfl, rfl, rfl, rfl, by omega, rfl⟩
          case round =>
            obtain ⟨j, m, v, hj, rfl, rfl, rfl, hmm, hvv, haj, rfl⟩ := hrel
            by_cases hgo : j < 9 ∧ a + j < s.size
            · obtain ⟨hj9, hajl⟩ := hgo
              have hd := HD.out (a + j) hajl
              rw [byteN_at hajl] at hd
              have hp8 : 10 ^ j ≤ 10 ^ 8 := Nat.pow_le_pow_right (by omega) (by omega)
              have hvlt := dvFrom_lt s a j (fun i hi => (HD.out (a + i) (by omega)).2)
              have hm0 : 0 ≤ m ∧ m ≤ 100000000 := by rw [hmm.out]; omega
              have hv0 : 0 ≤ v ∧ v ≤ 100000000 := by rw [hvv.out]; omega
              have hm2 := Lib.hid (show m * 10 = ((10 ^ (j + 1) : Nat) : Int) by rw [hmm.out, Nat.pow_succ]; omega)
              have hv2 := Lib.hid (show 10 * v + (((s[a + j]'hajl).toNat : Int) - 48) = (dvFrom s a (j + 1) : Int) by rw [hvv.out, dvFrom, byteN_at hajl]; omega)
              have hidx : (a : Int) + j < s.size := by omega
              clear hp8 hvlt
              go_wp2
              go_roundw
              case rel => exact ⟨j + 1, _, _, by omega, by go_num, rfl, rfl, hm2, hv2, by omega, trivial⟩
              case measure => simp [intOf] <;> omega
            · have hpw : 10 ^ j ≤ 10 ^ 9 := Nat.pow_le_pow_right (by omega) hj
              have hvlt := dvFrom_lt s a j (fun i hi => (HD.out (a + i) (by omega)).2)
              have hm0 : 0 ≤ m ∧ m < 4294967296 := by rw [hmm.out]; omega
              have hv0 : 0 ≤ v ∧ v < 4294967296 := by rw [hvv.out]; omega
              have hmin : min (9 * (k + 1)) s.size = a + j := by
                have := hk9.out
                omega
              have hk7 : k + 1 ≤ 7282 := by omega
              have hgr := grow_calls wr w.heap.size A n c l m v hO hB.size hm0 hv0 (by omega)
              have hnv : val l * m.toNat + v.toNat = dv s (a + j) := by
                rw [hval.out, show min a s.size = a by omega, hmm.out, hvv.out, Int.toNat_natCast, Int.toNat_natCast, dv_add]
              rw [hnv] at hgr
              replace hgr := Lib.hid hgr
              have hmin := Lib.hid hmin
              have hkn := Lib.hid (show 9 * (k + 1) < s.size + 9 by omega)
              clear hpw hvlt hnv
              by_cases hj9 : j < 9
              · have haj2 : ¬ (a : Int) + j < s.size := by omega
                have haj3 : (s.size : Int) ≤ (a : Int) + j := by omega
                clear hgo
                go_wp2_with fail
                refine hgr.out.mono ?_
                rintro e w8 ⟨A8, c8, n8, l8, rfl, hO8, hv8, hn8, hB8, hs8⟩
                go_wp2
                go_roundw
                case rel => exact ⟨k + 1, n8, A8, c8, l8, hk7, by omega, by rw [← hat]; go_num, rfl, hO8, by unfold Hid; rw [hmin.out]; exact hv8, hkn, hB.trans hB8⟩
                case measure => simp [intOf] <;> omega
              · have hj9' : j = 9 := by omega
                subst hj9'
                clear hgo
                by_cases haj4 : (a : Int) + 9 < s.size
                · go_wp2_with fail
                  refine hgr.out.mono ?_
                  rintro e w8 ⟨A8, c8, n8, l8, rfl, hO8, hv8, hn8, hB8, hs8⟩
                  go_wp2
                  go_roundw
                  case rel => exact ⟨k + 1, n8, A8, c8, l8, hk7, by omega, by rw [← hat]; go_num, rfl, hO8, by unfold Hid; rw [hmin.out]; exact hv8, hkn, hB.trans hB8⟩
                  case measure => simp [intOf] <;> omega
                · go_wp2_with fail
                  refine hgr.out.mono ?_
                  rintro e w8 ⟨A8, c8, n8, l8, rfl, hO8, hv8, hn8, hB8, hs8⟩
                  go_wp2
                  go_roundw
                  case rel => exact ⟨k + 1, n8, A8, c8, l8, hk7, by omega, by rw [← hat]; go_num, rfl, hO8, by unfold Hid; rw [hmin.out]; exact hv8, hkn, hB.trans hB8⟩
                  case measure => simp [intOf] <;> omega
        · have hv := hval.out
          rw [show min a s.size = s.size by omega] at hv
          have hv := Lib.hid hv
          go_wp2_with fail
          refine (trim_calls _ _ _ _ _ hO.sl).mono ?_
          rintro e w' ⟨rfl, rfl⟩
          rw [hv.out]
          go_wp2
          go_ret3
          have hO2 := hO.strip
          rw [hv.out] at hO2
          exact ⟨_, _, rfl, hO2, hB⟩
end Go.Proofs.Ytgjakbhfahehfaa
