/- nat.digit -/
import Derived.Test.YtkidgeeedigkhaaShift
import Derived.Test.YtkidgeeedigkhaaNum4
namespace Go.Proofs.Ytkidgeeedigkhaa
open Go.RowKit

theorem sub3 (x p b : Int) (hx : 0 ≤ x ∧ x < 4294967296) (hp : 0 ≤ p ∧ p < 4294967296) (hb : 0 ≤ b ∧ b ≤ 1) :
    IntKind.u64.wrap (IntKind.u64.wrap (x - p) - b) % 4294967296 = (x - p - b) % 4294967296 ∧ IntKind.u64.wrap (IntKind.u64.wrap (x - p) - b) / 9223372036854775808 = if x - p - b < 0 then 1 else 0 := by
  rw [IntKind.wrap_u64, IntKind.wrap_u64]
  refine ⟨by omega, ?_⟩
  split <;> omega

def RetDigit (w : World) (base g cap N : Nat) (pre post : List Int) (n : Nat) (q : Nat) (r : Nat) (e : Ending) (w' : World) : Prop :=
  ∃ win', e = .returned (.int .u32 (q : Int)) ∧ Row w' base g cap N (pre ++ win' ++ post) ∧ win'.length = n + 2 ∧ val win' = r ∧ w.grownBy w' (some g)

set_option maxHeartbeats 4000000 in
theorem digit_calls (w : World) (base g cap N : Nat) (pre win post V : List Int) (n : Nat) (A' : Option Addr) (c' cu : Nat) (hU : Row w base g cap N (pre ++ win ++ post)) (hwl : win.length = n + 2)
    (hV : Sl w A' (n + 1) c' V) (hne : ∀ b off, A' = some ⟨b, off, none⟩ → b ≠ g) (htop : 0 < V.getD n 0) (hW : val win < 4294967296 * val V) :
    Calls Try.prog 92 #[.slice (some ⟨g, pre.length, none⟩) (n + 2) cu, .slice A' (n + 1) c'] w (RetDigit w base g cap N pre post n (val win / val V) (val win % val V)) := by
  have hN := hU.len
  have hsm := hU.small
  simp only [List.length_append] at hN
  have hXl : Lim win := hU.lim.left.right
  obtain ⟨hq0, hq1, hup⟩ := guess_up hXl hV.lim hwl hV.len htop hW
  have hcU1 := hU.cell (pre.length + (n + 1)) (by omega)
  have hcU0 := hU.cell (pre.length + n) (by omega)
  rw [win_getD _ _ _ _ (by omega)] at hcU1 hcU0
  obtain ⟨b, off, rfl, hcV⟩ := hV.at_ (i := n) (by omega)
  have hx1 := hXl.getD (n + 1)
  have hx0 := hXl.getD n
  have hv := hV.lim.getD n
  have hor := or64_32 _ _ hx1.1 hx1.2 hx0.1 hx0.2
  generalize hqe : min ((win.getD (n + 1) 0 * 4294967296 + win.getD n 0) / V.getD n 0) 4294967295 = q at *
  have Hq := Lib.hid hqe
  clear hqe
  generalize win.getD (n + 1) 0 = x1 at *
  generalize win.getD n 0 = x0 at *
  generalize V.getD n 0 = v1 at *
  go_enter Try.func92, Try.ntmps92
  go_wp2
  go_quiet (fail)
  go_wp2
  rw [Hq.out]
  clear Hq hcU1 hcU0 hcV hor hx1 hx0 hv htop
  have hU1 := hU.drew nq
  have hg1 := grown_drewN (World.grownBy.refl w (some g)) nq
  have hV1 := hV.drewN nq
  generalize w.drewN nq = w1 at *
  clear hU
  go_loopw [8, 9, 41] (fun cv bv iv wr => ∃ (k : Nat) (o : List Int) (cy bo : Int), k ≤ n + 2 ∧ cv = .int .u64 cy ∧ bv = .int .u64 bo ∧ iv = .int .i64 k ∧ Hid (WinInv win V o k q cy bo) ∧ Row wr base g cap N (pre ++ o ++ post) ∧ w.grownBy wr (some g)) (fun _ _ iv _ => n + 2 - (intOf iv).toNat)
  case atStart => exact ⟨0, win, 0, 0, Nat.zero_le _, rfl, rfl, rfl, WinInv.start _ _ _, hU1, hg1⟩
  case round =>
    clear hU1 hg1 hV1
    obtain ⟨k, o, cy, bo, hk, rfl, rfl, rfl, hinv, hR, hG⟩ := hrel
    have hol := hinv.out.len
    have Hol := Lib.hid (hol.trans hwl)
    clear hol
    by_cases hlt : k < n + 2
    · have hcO := hR.cell (pre.length + k) (by have := Hol.out; omega)
      rw [win_getD _ _ _ _ (by have := Hol.out; omega), getD_of_drop hinv.out.tail] at hcO
      have hfO := hR.frozen (pre.length + k)
      have hsz := hR.lt
      have hstep := hinv.out.step hXl hV.lim ⟨hq0, hq1⟩ (by omega)
      have hZ := Row.stored hR (pre.length + k) (x := (win.getD k 0 - (cy + q * V.getD k 0) % 4294967296 - bo) % 4294967296) (by omega) (by omega)
      rw [win_set _ _ _ _ _ (by have := Hol.out; omega)] at hZ
      have hx := hXl.getD k
      have hv := hV.lim.getD k
      have hp := mul_lim ⟨hq0, hq1⟩ hv
      have hc0 := hinv.out.c0
      have hc1 := hinv.out.c1
      have hb0 := hinv.out.b0
      have hb1 := hinv.out.b1
      obtain ⟨e1, e2⟩ := sub3 (win.getD k 0) ((cy + q * V.getD k 0) % 4294967296) bo hx ⟨by omega, by omega⟩ ⟨hb0, hb1⟩
      rw [← e1, ← e2] at hstep
      rw [← e1] at hZ
      clear e1 e2
      have hstep := Lib.hid hstep
      by_cases hk1 : k < n + 1
      · obtain ⟨b2, off2, he, hcV⟩ := (hV.grown hG hne).at_ (i := k) (by omega)
        cases he
        have hG2 := fun u => grown_setCell hG (pre.length + k) u
        have hd : decide ((k : Int) < (n : Int) + 1) = true := by simp; omega
        generalize V.getD k 0 = v at *
        generalize win.getD k 0 = x at *
        go_wp2
        go_roundw
        case rel => exact ⟨k + 1, _, _, _, by omega, rfl, rfl, by go_num, hstep, hZ, hG2 _⟩
        case measure => simp [intOf] <;> omega
      · have hv0 : V.getD k 0 = 0 := by rw [List.getD_eq_getElem?_getD, List.getElem?_eq_none (by have := hV.len; omega)]; rfl
        have hd : decide ((k : Int) < (n : Int) + 1) = false := by simp; omega
        rw [hv0, Int.mul_zero, Int.add_zero, Int.emod_eq_of_lt hc0 hc1] at hstep hZ
        clear hv hp hv0
        have hG2 := fun u => grown_setCell hG (pre.length + k) u
        generalize win.getD k 0 = x at *
        go_wp2
        go_roundw
        case rel => exact ⟨k + 1, _, _, _, by omega, rfl, rfl, by go_num, hstep, hZ, hG2 _⟩
        case measure => simp [intOf] <;> omega
    · obtain rfl : k = n + 2 := by omega
      have hback := hinv.out
      rw [← hwl] at hback
      have hback := hback.back hR.lim.left.right (by have := hV.len; omega) ⟨hq0, hq1⟩ hup
      rw [hwl] at hback
      have hback := Lib.hid hback
      have hb0 := hinv.out.b0
      have hb1 := hinv.out.b1
      have hc0 := hinv.out.c0
      have hc1 := hinv.out.c1
      clear hinv hlt hk hup hq0 hq1
      go_wp2
      go_loopw [7, 9] (fun qv bv wq => ∃ (o : List Int) (q bo : Int), qv = .int .u64 q ∧ bv = .int .u64 bo ∧ Hid (BackInv (val win) (val V) (n + 2) o q bo) ∧ Row wq base g cap N (pre ++ o ++ post) ∧ w.grownBy wq (some g)) (fun qv _ _ => (intOf qv).toNat)
      case atStart => exact ⟨o, q, bo, rfl, rfl, hback, hR, hG⟩
      case round =>
        clear hback hb0 hb1 hc0 hc1 hR hG Hol
        obtain ⟨o, q, bo, rfl, rfl, hback, hR, hG⟩ := hrel
        have hb0 := hback.out.b0
        have hb1 := hback.out.b1
        by_cases hbo : 0 < bo
        · have hqp := hback.out.pos hbo
          have hq1 := hback.out.q1
          go_wp2
          go_loopw [13, 84] (fun cv iv wz => ∃ (k : Nat) (z : List Int) (cy : Int), k ≤ n + 2 ∧ cv = .int .u64 cy ∧ iv = .int .i64 k ∧ Hid (AddInv o V z k cy) ∧ Hid (z.drop k = o.drop k) ∧ Hid (z.length = n + 2) ∧ 0 ≤ cy ∧ cy ≤ 1 ∧ Row wz base g cap N (pre ++ z ++ post) ∧ w.grownBy wz (some g)) (fun _ iv _ => n + 2 - (intOf iv).toNat)
          case atStart => exact ⟨0, o, 0, Nat.zero_le _, rfl, rfl, ⟨by omega, by omega, by simp [val]⟩, rfl, hback.out.len, by omega, by omega, hR, hG⟩
          case round =>
            clear hR hG
            obtain ⟨k, z, cy, hk, rfl, rfl, hinv, htl, hzl, hc0, hc1, hR, hG⟩ := hrel
            by_cases hlt : k < n + 2
            · have hcO := hR.cell (pre.length + k) (by have := hzl.out; omega)
              rw [win_getD _ _ _ _ (by have := hzl.out; omega), getD_of_drop htl.out] at hcO
              have hfO := hR.frozen (pre.length + k)
              have hsz := hR.lt
              have hx := hback.out.lim.getD k
              have hv := hV.lim.getD k
              have hstep := hinv.out.step hback.out.lim hV.lim (show k < z.length by have := hzl.out; omega)
              have htl2 := Lib.hid (drop_set_succ (x := (cy + o.getD k 0 + V.getD k 0) % 4294967296) htl.out)
              have hzl2 := Lib.hid (show (z.set k ((cy + o.getD k 0 + V.getD k 0) % 4294967296)).length = n + 2 by rw [List.length_set]; exact hzl.out)
              have hZ := Row.stored hR (pre.length + k) (x := (cy + o.getD k 0 + V.getD k 0) % 4294967296) (by omega) (by omega)
              rw [win_set _ _ _ _ _ (by have := hzl.out; omega)] at hZ
              have hstep := Lib.hid hstep
              have hG2 := fun u => grown_setCell hG (pre.length + k) u
              by_cases hk1 : k < n + 1
              · obtain ⟨b2, off2, he, hcV⟩ := (hV.grown hG hne).at_ (i := k) (by omega)
                cases he
                have hd : decide ((k : Int) < (n : Int) + 1) = true := by simp; omega
                generalize V.getD k 0 = v at *
                generalize o.getD k 0 = x at *
                go_wp2
                go_roundw
                case rel => exact ⟨k + 1, _, _, by omega, rfl, by go_num, hstep, htl2, hzl2, by omega, by omega, hZ, hG2 _⟩
                case measure => simp [intOf] <;> omega
              · have hv0 : V.getD k 0 = 0 := by rw [List.getD_eq_getElem?_getD, List.getElem?_eq_none (by have := hV.len; omega)]; rfl
                have hd : decide ((k : Int) < (n : Int) + 1) = false := by simp; omega
                rw [hv0, Int.add_zero] at hstep hZ htl2 hzl2
                clear hv hv0
                generalize o.getD k 0 = x at *
                go_wp2
                go_roundw
                case rel => exact ⟨k + 1, _, _, by omega, rfl, by go_num, hstep, htl2, hzl2, by omega, by omega, hZ, hG2 _⟩
                case measure => simp [intOf] <;> omega
            · obtain rfl : k = n + 2 := by omega
              have hnew := Lib.hid (hback.out.step hbo hinv.out hR.lim.left.right hzl.out rfl (by have := hV.len; omega))
              have hn0 := hnew.out.b0
              have hb1' : bo = 1 := by omega
              have hcb : 0 ≤ bo - cy := by omega
              clear hb1' hn0
              go_wp2
              go_roundw
              case rel => exact ⟨z, _, _, rfl, rfl, hnew, hR, hG⟩
              case measure => simp [intOf] <;> omega
        · obtain rfl : bo = 0 := by omega
          obtain ⟨h1, h2⟩ := hback.out.last
          have H1 := Lib.hid h1
          have hq0 := hback.out.q0
          have hq1 := hback.out.q1
          have hlen := hback.out.len
          have HL := Lib.hid hlen
          have H2 := Lib.hid h2
          clear h1 h2 hlen
          go_wp2
          go_ret
          exact ⟨o, by rw [H1.out]; rfl, hR, HL.out, H2.out, hG⟩

theorem digit_at (w : World) (base g cap N : Nat) (pre win post V : List Int) (n j : Nat) (hj : pre.length = j) (A' : Option Addr) (c' cu : Nat) (hU : Row w base g cap N (pre ++ win ++ post)) (hwl : win.length = n + 2)
    (hV : Sl w A' (n + 1) c' V) (hne : ∀ b off, A' = some ⟨b, off, none⟩ → b ≠ g) (htop : 0 < V.getD n 0) (hW : val win < 4294967296 * val V) :
    Calls Try.prog 92 #[.slice (some ⟨g, j, none⟩) (n + 2) cu, .slice A' (n + 1) c'] w (RetDigit w base g cap N pre post n (val win / val V) (val win % val V)) := by
  subst hj
  exact digit_calls w base g cap N pre win post V n A' c' cu hU hwl hV hne htop hW
end Go.Proofs.Ytkidgeeedigkhaa
