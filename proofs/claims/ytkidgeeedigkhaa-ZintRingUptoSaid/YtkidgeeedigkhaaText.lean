/- nat.Text -/
import Derived.Test.YtkidgeeedigkhaaGcd
import Derived.Test.YtkidgeeedigkhaaNum8
import Derived.Laws.BytesArg
import Derived.RegionTactic
import Derived.ChangeAlike
namespace Go.Proofs.Ytkidgeeedigkhaa
open Go.RowKit

theorem info_u8 : (Try.prog.info? 5).map (fun i => (i.zero, i.size, i.bytes)) = some (some (.int .u8 0), 1, 1) := by kernel_rfl
def bytesV (l : List Int) : List Value := l.map fun x => .int .u8 x
/-- A slice of bytes of the call's own. -/
structure OwnB (w : World) (base : Nat) (A : Option Addr) (n c : Nat) (l : List Int) : Prop where
  len : l.length = n
  own : w.ownsRow base 5 1 (.slice A n c) n (bytesV l)
theorem OwnB.nil (w : World) (base : Nat) : OwnB w base none 0 0 [] := ⟨rfl, World.ownsRow_nil w base _ 1⟩
theorem OwnB.below {w w1 : World} {base : Nat} {A : Option Addr} {n c : Nat} {l : List Int} (h : OwnB w base A n c l) (hb : Below w.heap.size w w1) : OwnB w1 base A n c l := ⟨h.len, ownsRow_below h.own hb⟩
theorem below_appendB {w w1 w2 : World} (h : Below w.heap.size w w1) {base : Nat} {A : Option Addr} {n c : Nat} {l : List Int} (ho : OwnB w1 base A n c l) (hb : w.heap.size ≤ base) {x : Obj} (hg : (w1.alloc x).grownBy w2 (Value.slice A n c).ownBlock) : Below w.heap.size w w2 :=
  (h.alloc h.size x).grown hg (Nat.le_trans h.size (by simp)) (fun k hk => Nat.le_trans hb (ho.own.lt k hk).1)
theorem Own.keptB {w w' : World} {base base' : Nat} {A A' : Option Addr} {n n' c c' : Nat} {l l' : List Int} (h : Own w base A n c l) (hb : OwnB w base' A' n' c' l') (hg : w.grownBy w' (Value.slice A' n' c').ownBlock) : Own w' base A n c l := by
  refine ⟨h.lim, h.len, h.small, h.own.kept hg ?_⟩
  rcases h.own.2 with ⟨hv, _⟩ | ⟨g, cap, cur, hv, _, hh, _⟩
  · rw [hv]; exact .inl rfl
  · rw [hv]
    refine .inr fun hk => ?_
    rcases hb.own.2 with ⟨hv', _⟩ | ⟨g', cap', cur', hv', _, hh', _⟩
    · rw [hv'] at hk; simp [Value.ownBlock] at hk
    · rw [hv'] at hk
      have : g = g' := by simpa [Value.ownBlock] using hk
      subst this
      rw [hh] at hh'
      injection hh' with hh'
      injection hh' with _ ht
      exact absurd ht (by decide)
theorem OwnB.alloc {w : World} {base : Nat} {A : Option Addr} {n c : Nat} {l : List Int} (h : OwnB w base A n c l) (o : Obj) : OwnB (w.alloc o) base A n c l := h.below ((Below.refl _ _).alloc (Nat.le_refl _) o)
theorem OwnB.stored {w : World} {base g n c : Nat} {l : List Int} (h : OwnB w base (some ⟨g, 0, none⟩) n c l) (j : Nat) (x : Int) : OwnB (w.setCell ⟨g, j, none⟩ (.int .u8 x)) base (some ⟨g, 0, none⟩) n c (l.set j x) :=
  ⟨by rw [List.length_set]; exact h.len, by rw [bytesV, List.map_set]; exact (h.own.stored j (.int .u8 x)).1⟩
theorem OwnB.drew1 {w : World} {base n c : Nat} {A : Option Addr} {l : List Int} (h : OwnB w base A n c l) : OwnB w.drew base A n c l := ⟨h.len, h.own⟩
/-- 'append(back, x)', one byte. -/
theorem append1_u8 (w : World) {ops : Array Oper} {rest : List Oper} {o : Oper} {a : Act} {Q : Exit → Act → World → Prop} (hgd : o.guard = none) (s x : Operand)
    (ho : o.op = .call { callee := .builtin .append, args := #[s, x], argTypes := #[97, 97] }) (base : Nat) (A : Option Addr) (n c : Nat) (l : List Int) (v : Int)
    (hsv : a.eval s = .slice A n c) (hx : a.eval x = .slice (some ⟨w.heap.size, 0, none⟩) 1 1) (hown : OwnB w base A n c l) (hs : n + 1 ≤ 140737488355328) (hbase : base ≤ w.heap.size)
    (h : ∀ A1 c1 w', OwnB w' base A1 (n + 1) c1 (l ++ [v]) → (w.alloc (.cells #[.int .u8 v] 5)).grownBy w' (Value.slice A n c).ownBlock → wpList Try.prog ops Q rest (a.put o.dst (.slice A1 (n + 1) c1)) w') :
    wpList Try.prog ops Q (o :: rest) a (w.alloc (.cells #[.int .u8 v] 5)) := by
  obtain ⟨i0, hi, hz0, hz1, hz2⟩ := info_parts info_u8
  refine wpList_append_own _ hgd s x 97 ho base 5 i0 (.int .u8 0) 1 1 Try.underlying97 hi hz0 hz1 hz2 rfl (by omega) (.slice A n c) n (bytesV l) hsv (hown.own.alloc _) ⟨w.heap.size, 0, none⟩ 1 1 [.int .u8 v] hx rfl ?_ ?_ (by unfold maxLen; omega) (by omega) (by simp; omega) ?_
  · intro j u hu
    have hj : j = 0 := by
      have := (List.getElem?_eq_some_iff.1 hu).1
      simpa using this
    subst hj
    simp at hu
    subst hu
    rw [addr_add, World.cell?_alloc_at _ _ _ _ rfl]
    rfl
  · intro u hu
    simp at hu
    subst hu
    rfl
  · intro v' w' h1 h2 _
    obtain ⟨A1, c1, rfl⟩ := own_slice h1
    exact h A1 c1 w' ⟨by rw [List.length_append, hown.len]; rfl, by rw [bytesV, List.map_append]; exact h1⟩ h2

def RetText (N : Nat) (w : World) (e : Ending) (w' : World) : Prop := e = .returned (.string (strOfNums (decs N))) ∧ Below w.heap.size w w'

set_option maxHeartbeats 2000000 in
theorem text_pos (w : World) (A : Option Addr) (n c : Nat) (l : List Int) (h : Sl w A n c l) (h0 : 0 < val l) (hs : n ≤ 8796093022208) :
    Calls Try.prog 81 #[.slice A n c] w (RetText (val l) w) := by
  have hp : 0 < (digs (val l)).length := by
    rcases Nat.eq_zero_or_pos (digs (val l)).length with e | e
    · have := (digs_nil_iff (val l)).1 (List.eq_nil_of_length_eq_zero e); omega
    · exact e
  have hne : (((digs (val l)).length : Int) == 0) = false := beq_eq_false_iff_ne.2 (by omega)
  have hdl : (decR (val l)).length ≤ 87960930222080 := Nat.le_trans (decR_len_val h.lim) (by have := h.len; omega)
  go_enter Try.func81, Try.ntmps81
  go_wp2_with fail
  refine (norm_calls _ _ _ _ _ h (by omega)).mono ?_
  rintro e w1 ⟨A1, c1, rfl, hO, hB⟩
  clear h
  go_wp2
  go_loopg [0, 3] (val l) (fun g av bv wr => ∃ (Aa : Option Addr) (ca : Nat) (o : List Int) (Ab : Option Addr) (cb : Nat), av = .slice Aa (digs g).length ca ∧ bv = .slice Ab o.length cb ∧ Own wr w.heap.size Aa (digs g).length ca (digs g) ∧ OwnB wr w.heap.size Ab o.length cb o ∧ Hid (decR (val l) = o ++ decR g) ∧ Below w.heap.size w wr)
  case atStart => exact ⟨_, _, [], none, 0, rfl, rfl, hO, OwnB.nil _ _, rfl, hB⟩
  case round =>
    clear hO hB
    obtain ⟨Aa, ca, o, Ab, cb, rfl, rfl, hO, hOb, hdec, hB⟩ := hrel
    rcases Nat.eq_zero_or_pos gk with hg | hg
    · subst hg
      have e0 := Lib.hid (show (digs 0).length = 0 by rw [digs_zero]; rfl)
      have e1 := hdec.out
      rw [decR_zero, List.append_nil] at e1
      have hE := Lib.hid e1
      clear e1
      rw [e0.out]
      have holen := Lib.hid (show o.length ≤ 87960930222080 by rw [← hE.out]; exact hdl)
      have hopos : 0 < o.length := by
        rw [← hE.out, decR_pos h0]; simp
      have hol2 : o.length ≤ 87960930222080 := holen.out
      obtain ⟨gb, capb, hvb, hbb, hltb⟩ := hOb.own.form hopos
      injection hvb with hA _ hc
      subst hA hc
      clear hO hdec
      go_wp2
      go_loopw [7, 8] (fun iv kv wz => ∃ (i j : Nat) (z : List Int), i + j + 1 = o.length ∧ i ≤ j + 1 ∧ iv = .int .i64 i ∧ kv = .int .i64 j ∧ Hid (RevInv o z i) ∧ OwnB wz w.heap.size (some ⟨gb, 0, none⟩) o.length cb z ∧ Below w.heap.size w wz) (fun iv _ _ => o.length - (intOf iv).toNat)
      case atStart => exact ⟨0, o.length - 1, o, by omega, by omega, rfl, by go_num, RevInv.start o, hOb, hB⟩
      case round =>
        clear hOb hB
        obtain ⟨i, j, z, hij, hile, rfl, rfl, hinv, hOb, hB⟩ := hrel
        by_cases hlt : i < j
        · have hci := (hOb.own.cellAt i (by omega)).trans (show (bytesV z)[i]? = some (.int .u8 (o.getD i 0)) by
            have := hinv.out.at_ i (by omega)
            rw [if_neg (by omega)] at this
            rw [← this, bytesV, List.getElem?_map, List.getD_eq_getElem?_getD, List.getElem?_eq_getElem (show i < z.length by rw [hinv.out.len]; omega)]; rfl)
          have hcj := (hOb.own.cellAt j (by omega)).trans (show (bytesV z)[j]? = some (.int .u8 (o.getD j 0)) by
            have := hinv.out.at_ j (by omega)
            rw [if_neg (by omega)] at this
            rw [← this, bytesV, List.getElem?_map, List.getD_eq_getElem?_getD, List.getElem?_eq_getElem (show j < z.length by rw [hinv.out.len]; omega)]; rfl)
          have hfi := hOb.own.frozenAt i
          have hfj := hOb.own.frozenAt j
          have hstep := hinv.out.step (by omega)
          rw [show o.length - 1 - i = j by omega] at hstep
          replace hstep := Lib.hid hstep
          have hsz := hOb.own.lt gb rfl
          have hni : i < o.length := by omega
          have hnj : j < o.length := by omega
          generalize o.getD i 0 = x at *
          generalize o.getD j 0 = y at *
          have Hij := Lib.hid hij
          clear hij
          go_wp2
          go_region
          all_goals (try go_wp2)
          all_goals go_roundw
          case rel => exact ⟨i + 1, j - 1, _, by have := Hij.out; omega, by omega, by go_num, by go_num, hstep, ((hOb.stored i y).stored j x).drew1, below_drawn ((hB.setCell (p := ⟨gb, i, none⟩) hbb _).setCell (p := ⟨gb, j, none⟩) hbb _) ⟨1, rfl⟩⟩
          case measure => simp [intOf] <;> omega
        · have hz := hinv.out.last (by omega)
          have hfin := Lib.hid (show z = decs (val l) by rw [hz, decs, if_neg (by omega), hE.out])
          have hconv := run_convert_bytes_arg (P := Try.prog) wr 97 5 Try.underlying97 Try.underlying5 gb 0 o.length cb z hOb.len (fun i hi => by
            rw [Nat.zero_add]
            refine (hOb.own.cellAt i (by omega)).trans ?_
            rw [bytesV, List.getElem?_map, List.getD_eq_getElem?_getD, List.getElem?_eq_getElem (show i < z.length by rw [hOb.len]; exact hi)]
            rfl) 9 Try.underlying9
          clear hz hij hinv
          go_wp2
          go_ret
          exact ⟨by rw [hfin.out]; rfl, hB⟩
    · have hgp : 0 < (digs gk).length := by
        rcases Nat.eq_zero_or_pos (digs gk).length with e | e
        · have := (digs_nil_iff gk).1 (List.eq_nil_of_length_eq_zero e); omega
        · exact e
      have hsh := short_calls wr Aa _ ca _ 1000000000 hO.sl (by omega) (by omega)
      rw [val_digs] at hsh
      replace hsh := Lib.hid hsh
      go_wp2_with fail
      refine hsh.out.mono ?_
      rintro e w2 ⟨Aq, cq, rfl, hq, hB2⟩
      clear hsh
      rw [show (1000000000 : Int).toNat = 1000000000 from rfl] at hq ⊢
      have hBb := below_step hB hB2
      have hOb2 := hOb.below hB2
      have hq2 := hq.base hB.size
      have hm := Nat.div_add_mod gk 1000000000
      have hr : gk % 1000000000 < 1000000000 := Nat.mod_lt _ (by omega)
      have hqlt : gk / 1000000000 < gk := Nat.div_lt_self hg (by omega)
      generalize gk / 1000000000 = q at *
      generalize gk % 1000000000 = r at *
      go_wp2
      go_loopw [3, 5, 6] (fun bv rv kv wz => ∃ (k rr : Nat) (o : List Int) (Ab : Option Addr) (cb : Nat), k ≤ 9 ∧ kv = .int .i64 k ∧ rv = .int .u32 rr ∧ bv = .slice Ab o.length cb ∧ rr < 4294967296 ∧ Hid (rr < 10 ^ (9 - k)) ∧ Hid (decR (val l) = o ++ decR (q * 10 ^ (9 - k) + rr)) ∧ Own wz w.heap.size Aq (digs q).length cq (digs q) ∧ OwnB wz w.heap.size Ab o.length cb o ∧ Below w.heap.size w wz) (fun _ _ kv _ => 9 - (intOf kv).toNat)
      case atStart => exact ⟨0, r, o, Ab, cb, by omega, rfl, by go_num, rfl, by omega, hr, by unfold Hid; rw [hdec.out, ← hm, Nat.mul_comm], hq2, hOb2, hBb⟩
      case round =>
        clear hOb2 hq2 hBb hdec hOb hO
        obtain ⟨k, rr, o, Ab, cb, hk, rfl, rfl, rfl, hr32, hrr, hdec, hq2, hOb, hBz⟩ := hrel
        by_cases hgo : k < 9 ∧ (0 < q ∨ 0 < rr)
        · obtain ⟨hk9, hqr⟩ := hgo
          obtain ⟨hch, hch2⟩ := decR_chunk hk9 hrr.out hqr
          rw [hch] at hdec
          have hch := Lib.hid (show decR (val l) = (o ++ [48 + (rr : Int) % 10]) ++ decR (q * 10 ^ (9 - (k + 1)) + rr / 10) by rw [hdec.out, List.append_assoc]; rfl)
          have hlo := Lib.hid (show o.length + 1 ≤ 140737488355328 by have := congrArg List.length hdec.out; simp at this; omega)
          replace hch2 := Lib.hid hch2
          rcases Nat.eq_zero_or_pos q with hq0 | hq0
          · subst hq0
            have hrp : 0 < rr := by omega
            have e0 := Lib.hid (show (digs 0).length = 0 by rw [digs_zero]; rfl)
            rw [e0.out]
            rw [e0.out] at hq2
            go_wp2_with (at_builtin; (refine append1_u8 _ rfl _ _ rfl w.heap.size Ab o.length cb o (48 + (rr : Int) % 10) rfl rfl hOb ?_ ?_ ?_); (have := hlo.out; omega); exact hBz.size; intro A2 c2 w4 hO4 hg4; have hB4 := below_appendB hBz hOb (Nat.le_refl _) hg4; have hq4 := (hq2.alloc (.cells #[.int .u8 (48 + (rr : Int) % 10)] 5)).keptB (hOb.alloc _) hg4)
            go_roundw
            case rel => exact ⟨k + 1, rr / 10, _, A2, c2, by omega, by go_num, by go_num, by rw [List.length_append]; rfl, by omega, hch2, hch, hq4, by rw [List.length_append]; exact hO4, hB4⟩
            case measure => simp [intOf] <;> omega
          · have hqlen : 0 < (digs q).length := by
              rcases Nat.eq_zero_or_pos (digs q).length with e | e
              · have := (digs_nil_iff q).1 (List.eq_nil_of_length_eq_zero e); omega
              · exact e
            go_wp2_with (at_builtin; (refine append1_u8 _ rfl _ _ rfl w.heap.size Ab o.length cb o (48 + (rr : Int) % 10) rfl rfl hOb ?_ ?_ ?_); (have := hlo.out; omega); exact hBz.size; intro A2 c2 w4 hO4 hg4; have hB4 := below_appendB hBz hOb (Nat.le_refl _) hg4; have hq4 := (hq2.alloc (.cells #[.int .u8 (48 + (rr : Int) % 10)] 5)).keptB (hOb.alloc _) hg4)
            go_roundw
            case rel => exact ⟨k + 1, rr / 10, _, A2, c2, by omega, by go_num, by go_num, by rw [List.length_append]; rfl, by omega, hch2, hch, hq4, by rw [List.length_append]; exact hO4, hB4⟩
            case measure => simp [intOf] <;> omega
        · have hfin := Lib.hid (show decR (val l) = o ++ decR q by
            rw [hdec.out]
            congr 2
            rcases Nat.lt_or_ge k 9 with h9 | h9
            · have h1 : q = 0 := by omega
              have h2 : rr = 0 := by omega
              rw [h1, h2]; simp
            · have hk9 : 9 - k = 0 := by omega
              have := hrr.out
              rw [hk9, Nat.pow_zero] at this
              rw [hk9, Nat.pow_zero, Nat.mul_one]; omega)
          by_cases h9 : k < 9
          · obtain ⟨rfl, rfl⟩ : q = 0 ∧ rr = 0 := by omega
            have e0 := Lib.hid (show (digs 0).length = 0 by rw [digs_zero]; rfl)
            clear hgo
            rw [e0.out]
            rw [e0.out] at hq2
            go_wp2
            go_roundg 0
            case rel => exact ⟨Aq, cq, o, Ab, cb, by rw [e0.out], rfl, by rw [e0.out]; exact hq2, hOb, hfin, hBz⟩
            case measure => exact hqlt
          · clear hgo
            go_wp2
            go_roundg q
            case rel => exact ⟨Aq, cq, o, Ab, cb, rfl, rfl, hq2, hOb, hfin, hBz⟩
            case measure => exact hqlt

theorem text_calls (w : World) (A : Option Addr) (n c : Nat) (l : List Int) (h : Sl w A n c l) (hs : n ≤ 8796093022208) :
    Calls Try.prog 81 #[.slice A n c] w (RetText (val l) w) := by
  rcases Nat.eq_zero_or_pos (val l) with h0 | h0
  · have e0 := Lib.hid (show (digs (val l)).length = 0 by rw [h0, digs_zero]; rfl)
    have e1 := Lib.hid (show strOfNums (decs (val l)) = ⟨#[48]⟩ by rw [h0]; rfl)
    go_enter Try.func81, Try.ntmps81
    go_wp2_with fail
    refine (norm_calls _ _ _ _ _ h (by omega)).mono ?_
    rintro e w1 ⟨A1, c1, rfl, hO, hB⟩
    rw [e0.out]
    go_wp2
    go_ret
    exact ⟨by rw [e1.out]; rfl, hB⟩
  · exact text_pos w A n c l h h0 hs
end Go.Proofs.Ytkidgeeedigkhaa
