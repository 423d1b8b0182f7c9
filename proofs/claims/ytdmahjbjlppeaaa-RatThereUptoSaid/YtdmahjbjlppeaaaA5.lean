
/- A region that draws its order: one fact for each operation's value, whatever the order. A region, drawn or not, by what is known of each operation: values, new blocks, stores into blocks. What single operations do, for XReg's plans; what is known of numbers. What single operations do at this program's types. Stores as steps of a plan; results that lie in blocks. -/
import Derived.Test.YtdmahjbjlppeaaaA2
import Derived.Orders
import Derived.Test.YtdmahjbjlppeaaaA4
import Derived.Lib.SmallJoins
namespace Go.Proofs.Ytdmahjbjlppeaaa
open Go.RowKit

/-- The slot that operation i writes. -/
def dstOf (ops : Array Oper) (i : Nat) : Nat := ((ops[i]?).bind (·.dst)).getD 0
/-- Each operation writes a slot of its own, below n, and waits for elder ones only. -/
def plainOps (n : Nat) (ops : Array Oper) : Bool :=
  (List.range ops.size).all fun i => match ops[i]? with
    | some o => (match o.dst with
      | some d => decide (d < n) && (List.range i).all fun j => dstOf ops j != d
      | none => false) && o.after.all fun e => decide (e.on < i)
    | none => false
/-- Operation i leaves a value of which F i holds, and changes no elder memory. -/
def Step (P : Program) (ops : Array Oper) (Q : Exit → Act → World → Prop) (F : Nat → World → Value → Prop) (i : Nat) (o : Oper) (a : Act) (w : World) : Prop :=
  wpOp P ops Q i (fun a' w' => ∃ v, a' = a.put o.dst v ∧ F i w' v ∧ Below w.heap.size w w') a w
/-- What is known where an operation is carried out. -/
structure At (ops : Array Oper) (F : Nat → World → Value → Prop) (a0 : Act) (w0 : World) (o : Oper) (a : Act) (w : World) : Prop where
  below : Below w0.heap.size w0 w
  same : ∀ t, (ops.toList.any fun o => o.dst == some t) = false → a.tmps.getD t undef = a0.tmps.getD t undef
  dep : ∀ j, (o.after.toList.any fun e => Region.binds .any e && e.on == j) = true → F j w (a.tmps.getD (dstOf ops j) undef)
def Obs (P : Program) (ops : Array Oper) (Q : Exit → Act → World → Prop) (F : Nat → World → Value → Prop) (a0 : Act) (w0 : World) : Nat → List Oper → Prop
  | _, [] => True
  | i, o :: l => (∀ a w, At ops F a0 w0 o a w → Step P ops Q F i o a w) ∧ Obs P ops Q F a0 w0 (i + 1) l
def fillL : Array Value → List Oper → Nat → (Nat → Value) → Array Value
  | ts, [], _, _ => ts
  | ts, o :: l, i, g => fillL (match o.dst with
    | some d => ts.setIfInBounds d (g i)
    | none => ts) l (i + 1) g

theorem obs_at {P : Program} {ops : Array Oper} {Q : Exit → Act → World → Prop} {F : Nat → World → Value → Prop} {a0 : Act} {w0 : World} : ∀ (l : List Oper) (i k : Nat) (o : Oper), Obs P ops Q F a0 w0 i l → l[k]? = some o → ∀ a w, At ops F a0 w0 o a w → Step P ops Q F (i + k) o a w
  | [], _, _, _, _, h => by simp at h
  | x :: l, i, 0, o, hO, h => by
    simp at h
    subst h
    exact hO.1
  | x :: l, i, k + 1, o, hO, h => by
    have := obs_at l (i + 1) k o hO.2 (by simpa using h)
    rwa [Nat.add_right_comm] at this
theorem fillL_size : ∀ (l : List Oper) (ts : Array Value) (i : Nat) (g : Nat → Value), (fillL ts l i g).size = ts.size
  | [], _, _, _ => rfl
  | o :: l, ts, i, g => by
    rw [fillL, fillL_size l]
    cases o.dst <;> simp
theorem fillL_other : ∀ (l : List Oper) (ts : Array Value) (i : Nat) (g : Nat → Value) (t : Nat), (∀ o ∈ l, o.dst ≠ some t) → (fillL ts l i g).getD t undef = ts.getD t undef
  | [], _, _, _, _, _ => rfl
  | o :: l, ts, i, g, t, h => by
    rw [fillL, fillL_other l _ _ _ _ (fun o ho => h o (List.mem_cons_of_mem _ ho))]
    have := h o List.mem_cons_self
    cases hd : o.dst with
    | none => rfl
    | some d =>
      have : d ≠ t := fun e => this (e ▸ hd)
      simp [Array.getElem?_setIfInBounds_ne this]
theorem fillL_at : ∀ (l : List Oper) (ts : Array Value) (i : Nat) (g : Nat → Value) (t k : Nat) (o : Oper), l[k]? = some o → o.dst = some t → t < ts.size → (∀ m, k < m → ∀ o', l[m]? = some o' → o'.dst ≠ some t) →
    (fillL ts l i g).getD t undef = g (i + k)
  | [], _, _, _, _, _, _, h, _, _, _ => by simp at h
  | x :: l, ts, i, g, t, 0, o, h, hd, ht, hl => by
    simp at h
    subst h
    rw [fillL, fillL_other l _ _ _ _ (fun o ho => by
      obtain ⟨m, hm, rfl⟩ := List.mem_iff_getElem.1 ho
      exact hl (m + 1) (by omega) _ (by simp [hm]))]
    rw [hd]
    simp [ht]
  | x :: l, ts, i, g, t, k + 1, o, h, hd, ht, hl => by
    rw [fillL, fillL_at l _ (i + 1) g t k o (by simpa using h) hd (by cases x.dst <;> simpa using ht) (fun m hm o' ho' => hl (m + 1) (by omega) o' (by simpa using ho'))]
    congr 1
    omega

theorem plain_spec {n : Nat} {ops : Array Oper} (h : plainOps n ops = true) {i : Nat} {o : Oper} (hi : ops[i]? = some o) :
    ∃ d, o.dst = some d ∧ d < n ∧ (∀ j, j < i → dstOf ops j ≠ d) ∧ ∀ e ∈ o.after, e.on < i := by
  have hlt : i < ops.size := (Array.getElem?_eq_some_iff.1 hi).1
  have h1 := List.all_eq_true.1 h i (List.mem_range.2 hlt)
  simp only [hi, Bool.and_eq_true] at h1
  obtain ⟨h2, h3⟩ := h1
  cases hd : o.dst with
  | none => simp [hd] at h2
  | some d =>
    simp only [hd, Bool.and_eq_true, decide_eq_true_eq, List.all_eq_true, List.mem_range, bne_iff_ne] at h2
    exact ⟨d, rfl, h2.1, h2.2, fun e he => by simpa using (Array.all_eq_true_iff_forall_mem.1 h3) e he⟩
theorem dst_of {ops : Array Oper} {i : Nat} {o : Oper} {d : Nat} (hi : ops[i]? = some o) (hd : o.dst = some d) : dstOf ops i = d := by simp [dstOf, hi, hd]

def unl (listed : Array Bool) (n : Nat) : Nat := (List.range n).countP fun i => !listed.getD i true
theorem unl_set (listed : Array Bool) (i : Nat) (h : listed.getD i true = false) : ∀ n, unl (listed.setIfInBounds i true) n + (if i < n then 1 else 0) = unl listed n
  | 0 => by simp [unl]
  | n + 1 => by
    have ih := unl_set listed i h n
    simp only [unl, List.range_succ, List.countP_append] at ih ⊢
    by_cases hin : i = n
    · subst hin
      have hlt : i < listed.size := by
        rcases Nat.lt_or_ge i listed.size with h' | h'
        · exact h'
        · simp [Array.getElem?_eq_none h'] at h
      have e : (listed.setIfInBounds i true).getD i true = true := getD_set_true' hlt
      simp only [Nat.lt_irrefl, if_false, Nat.add_zero] at ih
      simp only [List.countP_singleton, e, h, Nat.lt_succ_self, if_true, ih]
      simp
    · have e : (listed.setIfInBounds i true).getD n true = listed.getD n true := Go.getD_set_ne true hin
      simp only [List.countP_singleton, e]
      by_cases hlt : i < n
      · rw [if_pos hlt] at ih
        rw [if_pos (show i < n + 1 by omega)]
        omega
      · rw [if_neg hlt] at ih
        rw [if_neg (show ¬ i < n + 1 by omega)]
        omega
where
  getD_set_true' {listed : Array Bool} {i : Nat} (hlt : i < listed.size) : (listed.setIfInBounds i true).getD i true = true := by simp [hlt]

structure FInv (ops : Array Oper) (F : Nat → World → Value → Prop) (a0 : Act) (w0 : World) (listed : Array Bool) (a : Act) (w : World) : Prop where
  size : a.tmps.size = a0.tmps.size
  defers : a.defers = a0.defers
  below : Below w0.heap.size w0 w
  same : ∀ t, (∀ i, listed.getD i false = true → dstOf ops i ≠ t) → a.tmps.getD t undef = a0.tmps.getD t undef
  facts : ∀ i, listed.getD i false = true → F i w (a.tmps.getD (dstOf ops i) undef)
  ls : listed.size = ops.size

theorem wpAny_facts {P : Program} {ops : Array Oper} {Q : Exit → Act → World → Prop} {F : Nat → World → Value → Prop} {a0 : Act} {w0 : World}
    (hp : plainOps a0.tmps.size ops = true) (hF : ∀ i w w' v, F i w v → Below w.heap.size w w' → F i w' v) (hobs : Obs P ops Q F a0 w0 0 ops.toList)
    (hend : ∀ (g : Nat → Value) w, Below w0.heap.size w0 w → (∀ i, i < ops.size → F i w (g i)) → Q .normal ⟨fillL a0.tmps ops.toList 0 g, a0.defers⟩ w) :
    ∀ (fuel : Nat) (listed : Array Bool) (a : Act) (w : World), unl listed ops.size ≤ fuel → FInv ops F a0 w0 listed a w → wpAny P .any ops Q fuel listed a w := by
  have last : ∀ (listed : Array Bool) (a : Act) (w : World), FInv ops F a0 w0 listed a w → Region.ready .any ops listed = [] → Q .normal a w := by
    intro listed a w hI hr
    have all : ∀ n i, i < n → i < ops.size → listed.getD i false = true := by
      intro n
      induction n with
      | zero => intro i hi; omega
      | succ n ih =>
        intro i hin hi
        by_cases hlt : i < n
        · exact ih i hlt hi
        have hin' : i = n := by omega
        subst hin'
        obtain ⟨o, ho⟩ : ∃ o, ops[i]? = some o := ⟨ops[i], by simp [hi]⟩
        obtain ⟨d, _, _, _, hon⟩ := plain_spec hp ho
        cases hli : listed.getD i true with
        | true =>
          have hl : i < listed.size := by rw [hI.ls]; exact hi
          simp only [Array.getD_eq_getD_getElem?, Array.getElem?_eq_getElem hl, Option.getD_some] at hli ⊢
          exact hli
        | false =>
          exfalso
          have : i ∈ Region.ready .any ops listed := mem_ready.2 ⟨hli, o, ho, fun e he _ => by
            have := hon e he
            exact ih _ this (by omega)⟩
          rw [hr] at this
          cases this
    have ha : a = ⟨fillL a0.tmps ops.toList 0 (fun i => a.tmps.getD (dstOf ops i) undef), a0.defers⟩ := by
      have hd := hI.defers
      have hsz := hI.size
      obtain ⟨ts, ds⟩ := a
      simp only at hd hsz
      subst hd
      congr 1
      apply Array.ext
      · rw [fillL_size]; exact hsz
      intro t h1 h2
      have e1 : ts[t] = ts.getD t undef := by simp [h1]
      have e2 : ∀ (x : Array Value) (h : t < x.size), x[t] = x.getD t undef := fun x h => by simp [h]
      rw [e1, e2 _ h2]
      by_cases hex : ∃ (i : Nat) (o : Oper), ops[i]? = some o ∧ o.dst = some t
      · obtain ⟨i, o, ho, hot⟩ := hex
        rw [fillL_at ops.toList a0.tmps 0 _ t i o (by simpa using ho) hot (by omega) (fun m hm o' ho' hne => by
          obtain ⟨d, hd, _, hj, _⟩ := plain_spec hp (i := m) (o := o') (by simpa using ho')
          rw [hne] at hd
          cases hd
          exact hj i hm (dst_of ho hot))]
        simp only [Nat.zero_add, dst_of ho hot]
      · rw [fillL_other ops.toList _ _ _ _ (fun o ho hd => by
          obtain ⟨m, hm, rfl⟩ := List.mem_iff_getElem.1 ho
          exact hex ⟨m, ops.toList[m], by rw [← Array.getElem?_toList]; simp, hd⟩)]
        refine hI.same t fun i hi hd => ?_
        have hlt : i < ops.size := by
          rw [← hI.ls]
          rcases Nat.lt_or_ge i listed.size with h' | h'
          · exact h'
          · simp [Array.getElem?_eq_none h'] at hi
        obtain ⟨d, hd', _, _, _⟩ := plain_spec hp (i := i) (o := ops[i]) (by simp [hlt])
        rw [dst_of (i := i) (o := ops[i]) (by simp [hlt]) hd'] at hd
        subst hd
        exact hex ⟨i, ops[i], by simp [hlt], hd'⟩
    rw [ha]
    exact hend _ w hI.below fun i hi => hI.facts i (all (i + 1) i (by omega) hi)
  have ready_lt : ∀ {listed i}, i ∈ Region.ready .any ops listed → i < ops.size := by
    intro listed i hi
    obtain ⟨_, o, ho, _⟩ := mem_ready.1 hi
    exact (Array.getElem?_eq_some_iff.1 ho).1
  intro fuel
  induction fuel with
  | zero =>
    intro listed a w hu hI
    have hr : Region.ready .any ops listed = [] := by
      apply List.eq_nil_iff_forall_not_mem.2
      intro i hi
      have h1 := unl_set listed i (mem_ready.1 hi).1 ops.size
      rw [if_pos (ready_lt hi)] at h1
      omega
    exact ⟨hr, last listed a w hI hr⟩
  | succ fuel ih =>
    intro listed a w hu hI
    refine ⟨fun hr => last listed a w hI hr, fun i hi => ?_⟩
    have hlt := ready_lt hi
    obtain ⟨hun, o, ho, hall⟩ := mem_ready.1 hi
    have hunl := unl_set listed i hun ops.size
    rw [if_pos hlt] at hunl
    obtain ⟨d, hd, hdn, hdj, hon⟩ := plain_spec hp ho
    have hstep := obs_at ops.toList 0 i o hobs (by simpa using ho) a w ⟨hI.below, fun t ht => hI.same t fun j hj hjt => by
        have hjl : j < ops.size := by
          rw [← hI.ls]
          rcases Nat.lt_or_ge j listed.size with h' | h'
          · exact h'
          · simp [Array.getElem?_eq_none h'] at hj
        obtain ⟨d', hd', _, _, _⟩ := plain_spec hp (i := j) (o := ops[j]) (by simp [hjl])
        rw [dst_of (i := j) (o := ops[j]) (by simp [hjl]) hd'] at hjt
        subst hjt
        have := List.any_eq_false.1 ht ops[j] (by simp)
        exact this (by simp [hd']),
      fun j hj => by
        obtain ⟨e, he, hb⟩ := List.any_eq_true.1 hj
        simp only [Bool.and_eq_true, beq_iff_eq] at hb
        have := hall e (by simpa using he) hb.1
        rw [hb.2] at this
        exact hI.facts j this⟩
    rw [Nat.zero_add] at hstep
    refine wpOp_mono (fun a' w' hK => ?_) hstep
    obtain ⟨v, rfl, hv, hB⟩ := hK
    have hneu : ∀ j, listed.getD j false = true → dstOf ops j ≠ d := fun j hj hjd => by
      have hjl : j < ops.size := by
        rw [← hI.ls]
        rcases Nat.lt_or_ge j listed.size with h' | h'
        · exact h'
        · simp [Array.getElem?_eq_none h'] at hj
      have hji : j ≠ i := fun e => by
        subst e
        have hl : j < listed.size := by rw [hI.ls]; exact hlt
        simp only [Array.getD_eq_getD_getElem?, Array.getElem?_eq_getElem hl, Option.getD_some] at hj hun
        rw [hj] at hun
        cases hun
      rcases Nat.lt_or_gt_of_ne hji with h1 | h1
      · exact hdj j h1 hjd
      · obtain ⟨d', hd', _, hj', _⟩ := plain_spec hp (i := j) (o := ops[j]) (by simp [hjl])
        have := hj' i h1
        rw [dst_of ho hd] at this
        rw [dst_of (i := j) (o := ops[j]) (by simp [hjl]) hd'] at hjd
        exact this hjd.symm
    have hput : ∀ t, t ≠ d → (a.put o.dst v).tmps.getD t undef = a.tmps.getD t undef := fun t ht => by
      rw [hd]
      simp [Act.put, Array.getElem?_setIfInBounds_ne (Ne.symm ht)]
    have hgi : ∀ j, (listed.setIfInBounds i true).getD j false = true → j ≠ i → listed.getD j false = true := fun j hj hne => by
      rwa [Go.getD_set_ne false (Ne.symm hne)] at hj
    refine ih _ _ _ (by omega) ⟨?_, ?_, below_step hI.below hB, ?_, ?_, ?_⟩
    · rw [hd]
      simpa [Act.put] using hI.size
    · rw [hd]
      exact hI.defers
    · intro t ht
      have htd : t ≠ d := fun e => ht i (by
        have hl : i < listed.size := by rw [hI.ls]; exact hlt
        simp [hl]) (by rw [dst_of ho hd, e])
      rw [hput t htd]
      refine hI.same t fun j hj => ?_
      by_cases hji : j = i
      · subst hji
        rw [dst_of ho hd]
        exact Ne.symm htd
      · exact ht j (by rwa [Go.getD_set_ne false (Ne.symm hji)])
    · intro j hj
      by_cases hji : j = i
      · subst hji
        rw [dst_of ho hd, hd]
        have : d < a.tmps.size := by rw [hI.size]; exact hdn
        simpa [Act.put, this] using hv
      · have h1 := hgi j hj hji
        rw [hput _ (hneu j h1)]
        exact hF _ _ _ _ (hI.facts j h1) hB
    · simpa using hI.ls

theorem wp_region_facts {P : Program} {id : Nat} {ops : Array Oper} {Q : Exit → Act → World → Prop} {a0 : Act} {w0 : World} (F : Nat → World → Value → Prop)
    (hm : P.follows .mixedOrders = true) (hp : plainOps a0.tmps.size ops = true) (hF : ∀ i w w' v, F i w v → Below w.heap.size w w' → F i w' v)
    (hobs : Obs P ops Q F a0 w0.drew 0 ops.toList)
    (hend : ∀ (g : Nat → Value) w, Below w0.drew.heap.size w0.drew w → (∀ i, i < ops.size → F i w (g i)) → Q .normal ⟨fillL a0.tmps ops.toList 0 g, a0.defers⟩ w) :
    (Code.region id ops true).wp P Q a0 w0 := by
  have hno : ∀ i, (Array.replicate ops.size false).getD i false = true → False := fun i h => by
    rcases Nat.lt_or_ge i ops.size with h' | h'
    · simp [h'] at h
    · simp [h'] at h
  refine wp_region_any hm (wpAny_facts hp hF hobs hend ops.size _ a0 _ ?_ ⟨rfl, rfl, Below.refl _ _, fun _ _ => rfl, fun i h => (hno i h).elim, by simp⟩)
  have := List.countP_le_length (p := fun i => !(Array.replicate ops.size false).getD i true) (l := List.range ops.size)
  simpa [unl] using this

theorem step_val {P : Program} {ops : Array Oper} {Q : Exit → Act → World → Prop} {F : Nat → World → Value → Prop} {i : Nat} {o : Oper} {a : Act} {w : World} {v : Value} (hi : ops[i]? = some o)
    (hg : Region.wanted o (yielded ops a.tmps) = true) (he : (execOp a.eval o).run P w = .ok (.value v) w) (hv : F i w v) : Step P ops Q F i o a w := by
  unfold Step wpOp
  simp only [hi, hg, if_true]
  left
  unfold Oper.wp
  rw [he]
  exact ⟨v, rfl, hv, Below.refl _ _⟩
theorem step_skip {P : Program} {ops : Array Oper} {Q : Exit → Act → World → Prop} {F : Nat → World → Value → Prop} {i : Nat} {o : Oper} {a : Act} {w : World} (hi : ops[i]? = some o)
    (hg : Region.wanted o (yielded ops a.tmps) = false) (hv : F i w undef) : Step P ops Q F i o a w := by
  unfold Step wpOp
  simp only [hi, hg, Bool.false_eq_true, if_false]
  exact ⟨undef, rfl, hv, Below.refl _ _⟩
theorem step_calls {P : Program} {ops : Array Oper} {Q : Exit → Act → World → Prop} {F : Nat → World → Value → Prop} {i : Nat} {o : Oper} {a : Act} {w : World} {f : FuncId} {args : Array Value} (hi : ops[i]? = some o)
    (hg : Region.wanted o (yielded ops a.tmps) = true) (he : (execOp a.eval o).run P w = .ok (.enter f args) w)
    (hc : Calls P f args w fun e w' => ∃ v, e = .returned v ∧ F i w' v ∧ Below w.heap.size w w') : Step P ops Q F i o a w := by
  unfold Step wpOp
  simp only [hi, hg, if_true]
  left
  unfold Oper.wp
  rw [he]
  refine hc.mono fun e w' h => ?_
  obtain ⟨v, rfl, hv, hB⟩ := h
  exact ⟨v, rfl, hv, hB⟩
/-- The guard of an operation, by the fact on the operation that it looks at. -/
theorem wanted_of {ops : Array Oper} {o : Oper} {a : Act} {j : Nat} {want b : Bool} (hgd : o.guard = some (j, want)) (hd : ((ops[j]?).bind (·.dst)).isSome = true)
    (h : a.tmps.getD (dstOf ops j) undef = .bool b) : Region.wanted o (yielded ops a.tmps) = (b == want) := by
  obtain ⟨d, hd⟩ := Option.isSome_iff_exists.1 hd
  have hdo : dstOf ops j = d := by rw [dstOf, hd]; rfl
  rw [hdo] at h
  have hlt : d < a.tmps.size := by
    rcases Nat.lt_or_ge d a.tmps.size with h' | h'
    · exact h'
    · simp [Array.getElem?_eq_none h', undef] at h
  have h2 : a.tmps[d]? = some (.bool b) := by
    simp only [Array.getD_eq_getD_getElem?, Array.getElem?_eq_getElem hlt, Option.getD_some] at h ⊢
    rw [h]
  have hy : yielded ops a.tmps j = some b := by
    unfold yielded
    rw [hd]
    simp only [Option.bind_some, h2]
  unfold Region.wanted
  rw [hgd]
  simp only [hy]
  cases b <;> cases want <;> rfl
end Go.Proofs.Ytdmahjbjlppeaaa

namespace Go.Proofs.Ytdmahjbjlppeaaa
open Go.RowKit

/-- No cell of these is a limb. -/
def okCells (cs : Array Value) : Prop := ∀ (j : Nat) (x : Int), cs[j]? ≠ some (.int .u32 x)
/-- The block g holds just these cells. -/
def Bx (w : World) (g : Nat) (t : TypeId) (cs : Array Value) : Prop := w.heap[g]? = some (.cells cs t (0, 0))
def OkB (w : World) (g n : Nat) : Prop := ∃ cs t, Bx w g t cs ∧ okCells cs ∧ cs.size = n
theorem Bx.lt {w : World} {g : Nat} {t : TypeId} {cs : Array Value} (h : Bx w g t cs) : g < w.heap.size := by
  rcases Nat.lt_or_ge g w.heap.size with hlt | hge
  · exact hlt
  · unfold Bx at h; rw [Array.getElem?_eq_none hge] at h; cases h
theorem OkB.lt {w : World} {g n : Nat} (h : OkB w g n) : g < w.heap.size := by
  obtain ⟨cs, t, h, _⟩ := h
  exact h.lt
/-- From w on nothing is lost that is known of numbers, and blocks of structs stay such. -/
structure Mono (w w' : World) : Prop where
  size : w.heap.size ≤ w'.heap.size
  sl : ∀ A n c l, Sl w A n c l → Sl w' A n c l
  ok : ∀ g n, OkB w g n → OkB w' g n
theorem Mono.refl (w : World) : Mono w w := ⟨Nat.le_refl _, fun _ _ _ _ h => h, fun _ _ h => h⟩
theorem Mono.trans {a b c : World} (h : Mono a b) (k : Mono b c) : Mono a c := ⟨Nat.le_trans h.size k.size, fun A n c l x => k.sl A n c l (h.sl A n c l x), fun g n x => k.ok g n (h.ok g n x)⟩
theorem Mono.below {w w' : World} (h : Below w.heap.size w w') : Mono w w' :=
  ⟨h.size, fun _ _ _ _ x => x.below h, fun g _ ⟨cs, t, hb, hc⟩ => ⟨cs, t, (h.block g hb.lt).trans hb, hc⟩⟩
/-- A store into the block g. -/
structure PutOf (w : World) (g : Nat) (t : TypeId) (cs : Array Value) (w' : World) : Prop where
  blk : Bx w' g t cs
  other : ∀ k, k ≠ g → w'.heap[k]? = w.heap[k]?
  size : w'.heap.size = w.heap.size
  below : ∀ B, B ≤ g → Below B w w'
theorem Mono.put {w w' : World} {g : Nat} {t : TypeId} {cs : Array Value} (h : PutOf w g t cs w') (hg : OkB w g cs.size) (hc : okCells cs) : Mono w w' := by
  refine ⟨by rw [h.size]; exact Nat.le_refl _, fun A n c l x => ⟨x.lim, x.len, x.le, x.small, fun h0 => ?_⟩, fun k n' ⟨cs', t', hb, hc', hn'⟩ => ?_⟩
  · obtain ⟨b, off, e, hlt, hcell⟩ := x.cells h0
    refine ⟨b, off, e, by rw [h.size]; exact hlt, fun j hj => ?_⟩
    have hne : b ≠ g := by
      intro hbg
      subst hbg
      obtain ⟨cs', t', hb, hc', _⟩ := hg
      have h1 := hcell j hj
      rw [cell_of_row w b (off + j) cs' t' (0, 0) hb] at h1
      exact hc' _ _ h1
    exact (World.cell?_of_block (h.other b hne)).trans (hcell j hj)
  · by_cases hk : k = g
    · subst hk
      obtain ⟨cs2, t2, hb2, _, hs2⟩ := hg
      refine ⟨cs, t, h.blk, hc, ?_⟩
      unfold Bx at hb hb2
      rw [hb] at hb2
      injection hb2 with hb2
      injection hb2 with e1 _ _
      subst e1
      omega
    · exact ⟨cs', t', (h.other k hk).trans hb, hc', hn'⟩

/-- What is known of a value, and stays known. -/
structure Known where
  p : World → Value → Prop
  keep : ∀ w w' v, p w v → Mono w w' → p w' v
def Known.is (v : Value) : Known := ⟨fun _ x => x = v, fun _ _ _ h _ => h⟩
def Known.any : Known := ⟨fun _ _ => True, fun _ _ _ h _ => h⟩

/-- The kinds of operations: one that yields a value; one that makes a block; a store. -/
inductive Kd where
  | val (f : Known)
  | new (n : Nat) (c : Option (TypeId × Array Value)) (m : Option Nat := none)
  | put (p q : Nat)
/-- A new block as a value: a pointer to it, or a slice of so many elements. -/
def mk : Option Nat → Nat → Value
  | none, g => .pointer (some ⟨g, 0, none⟩)
  | some k, g => .slice (some ⟨g, 0, none⟩) k k
theorem mk_inj {m m' : Option Nat} {g g' : Nat} (h : mk m g = mk m' g') : g = g' := by
  cases m <;> cases m' <;> simp only [mk] at h
  · injection h with h; injection h with h; injection h
  · cases h
  · cases h
  · injection h with h; injection h with h; injection h
def Kd.isNew : Kd → Bool
  | .new _ none none => true
  | _ => false
abbrev Vs := Nat → Value
def Act.vs (a : Act) : Vs := fun t => a.tmps.getD t undef
def kdFact (w0 : World) (k : Kd) (d : Option Tmp) (w : World) (vs : Vs) : Prop :=
  match k with
  | .val f => f.p w (vs (d.getD 0))
  | .new n none m => ∃ g, vs (d.getD 0) = mk m g ∧ w0.heap.size ≤ g ∧ OkB w g n
  | .new n (some (t, cs)) m => ∃ g, vs (d.getD 0) = mk m g ∧ w0.heap.size ≤ g ∧ OkB w g n ∧ Bx w g t cs
  | .put p q => ∃ g t cs, vs p = .pointer (some ⟨g, 0, none⟩) ∧ vs q = .agg cs ∧ Bx w g t cs

def opAt (ops : Array Oper) (i : Nat) : Option Tmp := (ops[i]?).bind (·.dst)
def kdAt (ks : List Kd) (i : Nat) : Kd := ks.getD i (.val .any)
def unwritten (ops : Array Oper) (t : Nat) : Bool := ops.toList.all fun o => o.dst != some t
/-- Slot s is written by none, or by an operation that o waits for (a new block, where asked). -/
def srcOk (ops : Array Oper) (ks : List Kd) (o : Oper) (new : Bool) (s : Nat) : Bool :=
  unwritten ops s || o.after.toList.any fun e => Region.binds .any e && (opAt ops e.on == some s && (!new || (kdAt ks e.on).isNew))
def planOk (n : Nat) (ops : Array Oper) (ks : List Kd) : Bool :=
  (List.range ops.size).all fun i => match ops[i]? with
    | some o => (match kdAt ks i with
      | .put p q => (o.dst == none) && (srcOk ops ks o true p && (srcOk ops ks o false q && (List.range i).all fun j => match kdAt ks j with
        | .put p' _ => p' != p
        | _ => true))
      | _ => match o.dst with
        | some d => decide (d < n) && (List.range i).all fun j => opAt ops j != some d
        | none => false) && o.after.all fun e => !Region.binds .any e || decide (e.on < i)
    | none => false

/-- Operation j waits for operation i. -/
def waits (ops : Array Oper) (j i : Nat) : Bool := ((ops[j]?).map fun o => o.after.toList.any fun e => Region.binds .any e && e.on == i).getD false
/-- What is known where operation i is carried out. -/
structure Here (ops : Array Oper) (ks : List Kd) (T : List Nat) (base : Nat) (a0 : Act) (w0 : World) (i : Nat) (o : Oper) (a : Act) (w : World) : Prop where
  held : ∀ j p q g, kdAt ks j = .put p q → unwritten ops p = true → waits ops j i = true → Act.vs a0 p = .pointer (some ⟨g, 0, none⟩) → w.heap[g]? = w0.heap[g]?
  below : Below base w0 w
  mono : Mono w0 w
  far : ∀ g, g < w0.heap.size → g ∉ T → w.heap[g]? = w0.heap[g]?
  same : ∀ t, unwritten ops t = true → Act.vs a t = Act.vs a0 t
  dep : ∀ j, (o.after.toList.any fun e => Region.binds .any e && e.on == j) = true → kdFact w0 (kdAt ks j) (opAt ops j) w (Act.vs a)
  soon : ∀ j t, opAt ops j = some t → waits ops j i = true → Act.vs a t = Act.vs a0 t
/-- What an operation must do. -/
def Does (P : Program) (ops : Array Oper) (Q : Exit → Act → World → Prop) (base : Nat) (k : Kd) (i : Nat) (o : Oper) (a : Act) (w : World) : Prop :=
  match k with
  | .val f => wpOp P ops Q i (fun a' w' => ∃ v, a' = a.put o.dst v ∧ f.p w' v ∧ Below w.heap.size w w') a w
  | .new n c m => wpOp P ops Q i (fun a' w' => ∃ t cs, a' = a.put o.dst (mk m w.heap.size) ∧ w' = w.alloc (.cells cs t) ∧ okCells cs ∧ cs.size = n ∧ (c = none ∨ c = some (t, cs))) a w
  | .put p q => wpOp P ops Q i (fun a' w' => ∃ g t cs, a' = a ∧ Act.vs a p = .pointer (some ⟨g, 0, none⟩) ∧ Act.vs a q = .agg cs ∧ PutOf w g t cs w' ∧ OkB w g cs.size ∧ okCells cs ∧ base ≤ g) a w
def Plan (P : Program) (ops : Array Oper) (Q : Exit → Act → World → Prop) (ks : List Kd) (T : List Nat) (base : Nat) (a0 : Act) (w0 : World) : Nat → List Oper → Prop
  | _, [] => True
  | i, o :: l => (∀ a w, Here ops ks T base a0 w0 i o a w → Does P ops Q base (kdAt ks i) i o a w) ∧ Plan P ops Q ks T base a0 w0 (i + 1) l

theorem plan_at {P : Program} {ops : Array Oper} {Q : Exit → Act → World → Prop} {ks : List Kd} {T : List Nat} {base : Nat} {a0 : Act} {w0 : World} : ∀ (l : List Oper) (i k : Nat) (o : Oper), Plan P ops Q ks T base a0 w0 i l → l[k]? = some o → ∀ a w, Here ops ks T base a0 w0 (i + k) o a w → Does P ops Q base (kdAt ks (i + k)) (i + k) o a w
  | [], _, _, _, _, h => by simp at h
  | x :: l, i, 0, o, hO, h => by
    simp at h
    subst h
    exact hO.1
  | x :: l, i, k + 1, o, hO, h => by
    have := plan_at l (i + 1) k o hO.2 (by simpa using h)
    rwa [Nat.add_right_comm] at this

structure Inv (ops : Array Oper) (ks : List Kd) (T : List Nat) (base : Nat) (a0 : Act) (w0 : World) (L : Nat → Prop) (a : Act) (w : World) : Prop where
  size : a.tmps.size = a0.tmps.size
  defers : a.defers = a0.defers
  below : Below base w0 w
  mono : Mono w0 w
  far : ∀ g, g < w0.heap.size → g ∉ T → w.heap[g]? = w0.heap[g]?
  same : ∀ t, (∀ i, L i → opAt ops i ≠ some t) → Act.vs a t = Act.vs a0 t
  facts : ∀ i, L i → i < ops.size → kdFact w0 (kdAt ks i) (opAt ops i) w (Act.vs a)
  fixed : ∀ j p q g, ¬ L j → j < ops.size → kdAt ks j = .put p q → unwritten ops p = true → Act.vs a0 p = .pointer (some ⟨g, 0, none⟩) → w.heap[g]? = w0.heap[g]?
  down : ∀ i, L i → ∀ o, ops[i]? = some o → ∀ e ∈ o.after, Region.binds .any e = true → L e.on
  apart : ∀ i j, L i → L j → i ≠ j → i < ops.size → j < ops.size → (∃ n c m, kdAt ks i = .new n c m) → (∃ n c m, kdAt ks j = .new n c m) → ∀ m g m' k, Act.vs a ((opAt ops i).getD 0) = mk m g → Act.vs a ((opAt ops j).getD 0) = mk m' k → g ≠ k
/-- The slots that no operation writes and into whose blocks is stored; the blocks. -/
def fixes (ops : Array Oper) : List Kd → List Nat
  | [] => []
  | .put p _ :: l => if unwritten ops p then p :: fixes ops l else fixes ops l
  | _ :: l => fixes ops l
def Fix (a0 : Act) (w0 : World) : List Nat → List Nat → Prop
  | [], [] => True
  | p :: ps, g :: gs => Act.vs a0 p = .pointer (some ⟨g, 0, none⟩) ∧ g < w0.heap.size ∧ g ∉ gs ∧ Fix a0 w0 ps gs
  | _, _ => False
theorem Fix.of {a0 : Act} {w0 : World} : ∀ {ps gs : List Nat}, Fix a0 w0 ps gs → ∀ p ∈ ps, ∃ g ∈ gs, Act.vs a0 p = .pointer (some ⟨g, 0, none⟩) ∧ g < w0.heap.size
  | [], [], _, p, hp => by cases hp
  | p0 :: ps, g0 :: gs, h, p, hp => by
    rcases List.mem_cons.1 hp with rfl | hp
    · exact ⟨g0, List.mem_cons_self, h.1, h.2.1⟩
    · obtain ⟨g, hg, h1, h2⟩ := Fix.of h.2.2.2 p hp
      exact ⟨g, List.mem_cons_of_mem _ hg, h1, h2⟩
  | [], _ :: _, h, _, _ => h.elim
  | _ :: _, [], h, _, _ => h.elim
theorem ptr_inj {g g' : Nat} (h : (Value.pointer (some ⟨g, 0, none⟩)) = .pointer (some ⟨g', 0, none⟩)) : g = g' := by
  injection h with h
  injection h with h
  injection h
theorem Fix.apart {a0 : Act} {w0 : World} : ∀ {ps gs : List Nat}, Fix a0 w0 ps gs → ∀ p ∈ ps, ∀ p' ∈ ps, p ≠ p' → Act.vs a0 p ≠ Act.vs a0 p'
  | [], _, _, p, hp, _, _, _ => by cases hp
  | p0 :: ps, g0 :: gs, h, p, hp, p', hp', hne => by
    rcases List.mem_cons.1 hp with rfl | hp1
    · rcases List.mem_cons.1 hp' with rfl | hp2
      · exact absurd rfl hne
      · obtain ⟨g, hg, h1, _⟩ := Fix.of h.2.2.2 p' hp2
        rw [h.1, h1]
        intro e
        exact h.2.2.1 (ptr_inj e ▸ hg)
    · rcases List.mem_cons.1 hp' with rfl | hp2
      · obtain ⟨g, hg, h1, _⟩ := Fix.of h.2.2.2 p hp1
        rw [h.1, h1]
        intro e
        exact h.2.2.1 (ptr_inj e ▸ hg)
      · exact Fix.apart h.2.2.2 p hp1 p' hp2 hne
  | _ :: _, [], h, _, _, _, _, _ => h.elim
theorem fixes_mem {ops : Array Oper} {p q : Nat} (hu : unwritten ops p = true) : ∀ {ks : List Kd} {i : Nat}, kdAt ks i = .put p q → p ∈ fixes ops ks
  | [], i, h => by simp [kdAt] at h
  | k :: ks, 0, h => by
    simp [kdAt] at h
    subst h
    simp [fixes, hu]
  | k :: ks, i + 1, h => by
    have := fixes_mem (ks := ks) (i := i) hu (by simpa [kdAt] using h)
    cases k with
    | put p' q' =>
      simp only [fixes]
      split
      · exact List.mem_cons_of_mem _ this
      · exact this
    | val f => exact this
    | new n c m => exact this

theorem opAt_of {ops : Array Oper} {i : Nat} {o : Oper} (hi : ops[i]? = some o) : opAt ops i = o.dst := by simp [opAt, hi]
theorem vs_put_none (a : Act) (v : Value) : a.put none v = a := rfl
theorem vs_put_ne {a : Act} {d t : Nat} {v : Value} (h : t ≠ d) : Act.vs (a.put (some d) v) t = Act.vs a t := by
  simp [Act.vs, Act.put, Array.getElem?_setIfInBounds_ne (Ne.symm h)]
theorem vs_put_eq {a : Act} {d : Nat} {v : Value} (h : d < a.tmps.size) : Act.vs (a.put (some d) v) d = v := by
  simp [Act.vs, Act.put, h]
theorem unwritten_iff {ops : Array Oper} {t : Nat} (h : unwritten ops t = true) (i : Nat) : opAt ops i ≠ some t := by
  intro e
  cases ho : ops[i]? with
  | none => simp [opAt, ho] at e
  | some o =>
    rw [opAt_of ho] at e
    have h1 := List.all_eq_true.1 h o (by
      have := Array.mem_of_getElem? ho
      simpa using this)
    simp [e] at h1

/-- A slot that is read for a store is never written again. -/
theorem src_fixed {ops : Array Oper} {ks : List Kd} {o : Oper} {new : Bool} {s : Nat} (h : srcOk ops ks o new s = true) :
    unwritten ops s = true ∨ ∃ e ∈ o.after, Region.binds .any e = true ∧ opAt ops e.on = some s ∧ (new = true → ∃ n, kdAt ks e.on = .new n none none) := by
  simp only [srcOk, Bool.or_eq_true] at h
  rcases h with h | h
  · exact .inl h
  · obtain ⟨e, he, hb⟩ := List.any_eq_true.1 h
    simp only [Bool.and_eq_true, beq_iff_eq, Bool.or_eq_true, Bool.not_eq_true'] at hb
    refine .inr ⟨e, by simpa using he, hb.1, hb.2.1, fun hn => ?_⟩
    rcases hb.2.2 with h1 | h1
    · rw [hn] at h1; cases h1
    · revert h1
      cases kdAt ks e.on with
      | new n c m => cases c with
        | none => cases m with
          | none => intro _; exact ⟨n, rfl⟩
          | some m => intro h; cases h
        | some c => intro h; cases h
      | val f => intro h; cases h
      | put p q => intro h; cases h

theorem plan_dep {n : Nat} {ops : Array Oper} {ks : List Kd} (hp : planOk n ops ks = true) {i : Nat} {o : Oper} (hi : ops[i]? = some o) : ∀ e ∈ o.after, Region.binds .any e = true → e.on < i := by
  have hlt : i < ops.size := (Array.getElem?_eq_some_iff.1 hi).1
  have h1 := List.all_eq_true.1 hp i (List.mem_range.2 hlt)
  simp only [hi, Bool.and_eq_true] at h1
  exact fun e he hb => by simpa [hb] using (Array.all_eq_true_iff_forall_mem.1 h1.2) e he
theorem plan_dst {n : Nat} {ops : Array Oper} {ks : List Kd} (hp : planOk n ops ks = true) {i : Nat} {o : Oper} (hi : ops[i]? = some o) {d : Nat} (hd : o.dst = some d) : d < n ∧ ∀ j, j < i → opAt ops j ≠ some d := by
  have hlt : i < ops.size := (Array.getElem?_eq_some_iff.1 hi).1
  have h1 := List.all_eq_true.1 hp i (List.mem_range.2 hlt)
  simp only [hi, Bool.and_eq_true] at h1
  have h2 := h1.1
  revert h2
  cases hk : kdAt ks i with
  | put p q => intro h2; simp [hd] at h2
  | val f => intro h2; simp only [hd, Bool.and_eq_true, decide_eq_true_eq, List.all_eq_true, List.mem_range, bne_iff_ne] at h2; exact h2
  | new n c m => intro h2; simp only [hd, Bool.and_eq_true, decide_eq_true_eq, List.all_eq_true, List.mem_range, bne_iff_ne] at h2; exact h2
theorem plan_new {n : Nat} {ops : Array Oper} {ks : List Kd} (hp : planOk n ops ks = true) {i : Nat} {o : Oper} (hi : ops[i]? = some o) {m : Nat} {c : Option (TypeId × Array Value)} {mm : Option Nat} (hk : kdAt ks i = .new m c mm) : ∃ d, o.dst = some d := by
  have hlt : i < ops.size := (Array.getElem?_eq_some_iff.1 hi).1
  have h1 := List.all_eq_true.1 hp i (List.mem_range.2 hlt)
  simp only [hi, Bool.and_eq_true, hk] at h1
  cases hd : o.dst with
  | some d => exact ⟨d, rfl⟩
  | none => simp [hd] at h1
theorem plan_put {n : Nat} {ops : Array Oper} {ks : List Kd} (hp : planOk n ops ks = true) {i : Nat} {o : Oper} (hi : ops[i]? = some o) {p q : Nat} (hk : kdAt ks i = .put p q) :
    o.dst = none ∧ srcOk ops ks o true p = true ∧ srcOk ops ks o false q = true ∧ ∀ j p' q', j < i → kdAt ks j = .put p' q' → p' ≠ p := by
  have hlt : i < ops.size := (Array.getElem?_eq_some_iff.1 hi).1
  have h1 := List.all_eq_true.1 hp i (List.mem_range.2 hlt)
  simp only [hi, Bool.and_eq_true, hk] at h1
  obtain ⟨⟨h2, h3, h4, h5⟩, _⟩ := h1
  refine ⟨by simpa using h2, h3, h4, fun j p' q' hj hkj => ?_⟩
  have := List.all_eq_true.1 h5 j (List.mem_range.2 hj)
  simpa [hkj] using this
theorem opAt_inj {n : Nat} {ops : Array Oper} {ks : List Kd} (hp : planOk n ops ks = true) {i j : Nat} {d : Nat} (hi : opAt ops i = some d) (hj : opAt ops j = some d) : i = j := by
  have hs : ∀ k, opAt ops k = some d → ∃ o, ops[k]? = some o ∧ o.dst = some d := fun k hk => by
    cases ho : ops[k]? with
    | none => simp [opAt, ho] at hk
    | some o => exact ⟨o, rfl, by rw [← opAt_of ho]; exact hk⟩
  obtain ⟨o, ho, hd⟩ := hs i hi
  obtain ⟨o', ho', hd'⟩ := hs j hj
  rcases Nat.lt_trichotomy i j with h | h | h
  · exact absurd hi ((plan_dst hp ho' hd').2 i h)
  · exact h
  · exact absurd hj ((plan_dst hp ho hd).2 j h)

/-- A fact that stood, behind an operation that makes or yields. -/
theorem kd_keep {w0 w w' : World} {k : Kd} {d : Option Tmp} {vs vs' : Vs} (h : kdFact w0 k d w vs) (hB : Below w.heap.size w w')
    (hd : vs' (d.getD 0) = vs (d.getD 0) ∨ ∃ p q, k = .put p q) (hpq : ∀ p q, k = .put p q → vs' p = vs p ∧ vs' q = vs q) : kdFact w0 k d w' vs' := by
  have hM := Mono.below hB
  cases k with
  | val f =>
    rcases hd with hd | ⟨p, q, hk⟩
    · simp only [kdFact, hd] at h ⊢
      exact f.keep _ _ _ h hM
    · cases hk
  | new n c m =>
    rcases hd with hd | ⟨p, q, hk⟩
    · cases c with
      | none =>
        simp only [kdFact, hd] at h ⊢
        obtain ⟨g, h1, h2, h3⟩ := h
        exact ⟨g, h1, h2, hM.ok g n h3⟩
      | some c =>
        simp only [kdFact, hd] at h ⊢
        obtain ⟨g, h1, h2, h3, h4⟩ := h
        exact ⟨g, h1, h2, hM.ok g n h3, (hB.block g h4.lt).trans h4⟩
    · cases hk
  | put p q =>
    obtain ⟨e1, e2⟩ := hpq p q rfl
    simp only [kdFact, e1, e2] at h ⊢
    obtain ⟨g, t, cs, h1, h2, h3⟩ := h
    exact ⟨g, t, cs, h1, h2, (hB.block g h3.lt).trans h3⟩

theorem inv_step {P : Program} {ops : Array Oper} {Q : Exit → Act → World → Prop} {ks : List Kd} {T : List Nat} {base : Nat} {a0 : Act} {w0 : World} {L : Nat → Prop} {a : Act} {w : World} {i : Nat} {o : Oper}
    (hp : planOk a0.tmps.size ops ks = true) (hfix : Fix a0 w0 (fixes ops ks) T) (hbase : base ≤ w0.heap.size) (hplan : Plan P ops Q ks T base a0 w0 0 ops.toList)
    (hI : Inv ops ks T base a0 w0 L a w) (hL : ∀ j, L j → j < ops.size) (hi : ops[i]? = some o) (hnot : ¬ L i) (hdeps : ∀ e ∈ o.after, Region.binds .any e = true → L e.on) :
    wpOp P ops Q i (fun a' w' => Inv ops ks T base a0 w0 (fun j => L j ∨ j = i) a' w') a w := by
  have hlt : i < ops.size := (Array.getElem?_eq_some_iff.1 hi).1
  have held : ∀ j p q g, kdAt ks j = .put p q → unwritten ops p = true → waits ops j i = true → Act.vs a0 p = .pointer (some ⟨g, 0, none⟩) → w.heap[g]? = w0.heap[g]? := fun j p q g hk hu hw hv => by
    cases hoj : ops[j]? with
    | none => simp [waits, hoj] at hw
    | some oj =>
      simp only [waits, hoj, Option.map_some, Option.getD_some] at hw
      obtain ⟨e, he, hb⟩ := List.any_eq_true.1 hw
      simp only [Bool.and_eq_true, beq_iff_eq] at hb
      refine hI.fixed j p q g (fun hj => hnot ?_) (Array.getElem?_eq_some_iff.1 hoj).1 hk hu hv
      have := hI.down j hj oj hoj e (by simpa using he) hb.1
      rwa [hb.2] at this
  have soon : ∀ j t, opAt ops j = some t → waits ops j i = true → Act.vs a t = Act.vs a0 t := fun j t hj hw => by
    cases hoj : ops[j]? with
    | none => simp [waits, hoj] at hw
    | some oj =>
      simp only [waits, hoj, Option.map_some, Option.getD_some] at hw
      obtain ⟨e, he, hb⟩ := List.any_eq_true.1 hw
      simp only [Bool.and_eq_true, beq_iff_eq] at hb
      refine hI.same t fun k hk hkt => hnot ?_
      obtain rfl := opAt_inj hp hkt hj
      have := hI.down k hk oj hoj e (by simpa using he) hb.1
      rwa [hb.2] at this
  have hdoes := plan_at ops.toList 0 i o hplan (by simpa using hi) a w ⟨by rw [Nat.zero_add]; exact held, hI.below, hI.mono, hI.far, fun t ht => hI.same t fun j _ => unwritten_iff ht j, fun j hj => by
    obtain ⟨e, he, hb⟩ := List.any_eq_true.1 hj
    simp only [Bool.and_eq_true, beq_iff_eq] at hb
    have := hdeps e (by simpa using he) hb.1
    rw [hb.2] at this
    exact hI.facts j this (hL j this), by rw [Nat.zero_add]; exact soon⟩
  rw [Nat.zero_add] at hdoes
  have hsz : w0.heap.size ≤ w.heap.size := hI.mono.size
  have down' : ∀ j, (L j ∨ j = i) → ∀ o', ops[j]? = some o' → ∀ e ∈ o'.after, Region.binds .any e = true → (L e.on ∨ e.on = i) := fun j hj o' ho' e he hb => by
    rcases hj with hj | rfl
    · exact .inl (hI.down j hj o' ho' e he hb)
    · rw [hi] at ho'
      cases ho'
      exact .inl (hdeps e he hb)
  -- a slot that a store reads is not the slot that i writes
  have psafe : ∀ d, o.dst = some d → ∀ j, L j → ∀ p q, kdAt ks j = .put p q → p ≠ d ∧ q ≠ d := fun d hd j hj p q hk => by
    have hjl := hL j hj
    have hoj : ops[j]? = some ops[j] := by simp [hjl]
    obtain ⟨_, hs1, hs2, _⟩ := plan_put hp hoj hk
    have key : ∀ new s, srcOk ops ks ops[j] new s = true → s ≠ d := fun new s hs => by
      rcases src_fixed hs with h | ⟨e, he, hb, hop, _⟩
      · intro e
        subst e
        exact unwritten_iff h i (by rw [opAt_of hi, hd])
      · intro e2
        subst e2
        have := opAt_inj hp hop (by rw [opAt_of hi, hd] : opAt ops i = some s)
        have hl := hI.down j hj _ hoj e he hb
        rw [this] at hl
        exact hnot hl
    exact ⟨key true p hs1, key false q hs2⟩
  -- an operation that writes slot d keeps what was known
  have keepAll : ∀ d v w', o.dst = some d → Below w.heap.size w w' → ∀ j, L j → j < ops.size → kdFact w0 (kdAt ks j) (opAt ops j) w' (Act.vs (a.put (some d) v)) := fun d v w' hd hB j hj hjl => by
    refine kd_keep (hI.facts j hj hjl) hB ?_ ?_
    · cases hk : kdAt ks j with
      | put p q => exact .inr ⟨p, q, rfl⟩
      | val f =>
        left
        refine vs_put_ne fun e => ?_
        have hoj : ops[j]? = some ops[j] := by simp [hjl]
        cases hoa : opAt ops j with
        | none =>
          have h1 := List.all_eq_true.1 hp j (List.mem_range.2 hjl)
          simp only [hoj, hk, Bool.and_eq_true] at h1
          rw [opAt_of hoj] at hoa
          simp [hoa] at h1
        | some dj =>
          rw [hoa] at e
          simp only [Option.getD_some] at e
          subst e
          have := opAt_inj hp hoa (by rw [opAt_of hi, hd])
          subst this
          exact hnot hj
      | new n c m =>
        left
        refine vs_put_ne fun e => ?_
        have hoj : ops[j]? = some ops[j] := by simp [hjl]
        obtain ⟨dj, hdj⟩ := plan_new hp hoj hk
        rw [opAt_of hoj, hdj] at e
        simp only [Option.getD_some] at e
        subst e
        have := opAt_inj hp (by rw [opAt_of hoj, hdj] : opAt ops j = some dj) (by rw [opAt_of hi, hd])
        subst this
        exact hnot hj
    · intro p q hk
      obtain ⟨h1, h2⟩ := psafe d hd j hj p q hk
      exact ⟨vs_put_ne h1, vs_put_ne h2⟩
  have newdst : ∀ j, L j → (∃ n c m, kdAt ks j = .new n c m) → ∀ d, o.dst = some d → (opAt ops j).getD 0 ≠ d := fun j hj ⟨n, c, mm, hk⟩ d hd e => by
    have hjl := hL j hj
    have hoj : ops[j]? = some ops[j] := by simp [hjl]
    obtain ⟨dj, hdj⟩ := plan_new hp hoj hk
    rw [opAt_of hoj, hdj] at e
    simp only [Option.getD_some] at e
    subst e
    have := opAt_inj hp (by rw [opAt_of hoj, hdj] : opAt ops j = some dj) (by rw [opAt_of hi, hd])
    subst this
    exact hnot hj
  have sameAll : ∀ d v, o.dst = some d → ∀ t, (∀ j, (L j ∨ j = i) → opAt ops j ≠ some t) → Act.vs (a.put (some d) v) t = Act.vs a0 t := fun d v hd t ht => by
    have htd : t ≠ d := fun e => ht i (.inr rfl) (by rw [opAt_of hi, hd, e])
    rw [vs_put_ne htd]
    exact hI.same t fun j hj => ht j (.inl hj)
  have fixlt : ∀ j p q g, kdAt ks j = .put p q → unwritten ops p = true → Act.vs a0 p = .pointer (some ⟨g, 0, none⟩) → g < w0.heap.size := fun j p q g hk hu hv => by
    obtain ⟨g2, _, h1, h2⟩ := hfix.of p (fixes_mem hu hk)
    rw [hv] at h1
    have := ptr_inj h1
    omega
  have fixedB : ∀ w', Below w.heap.size w w' → ∀ j p q g, ¬ (L j ∨ j = i) → j < ops.size → kdAt ks j = .put p q → unwritten ops p = true → Act.vs a0 p = .pointer (some ⟨g, 0, none⟩) → w'.heap[g]? = w0.heap[g]? := fun w' hB j p q g hj hjl hk hu hv => by
    have := fixlt j p q g hk hu hv
    rw [hB.block g (by omega)]
    exact hI.fixed j p q g (fun h => hj (.inl h)) hjl hk hu hv
  cases hk : kdAt ks i with
  | val f =>
    rw [hk] at hdoes
    simp only [Does] at hdoes
    refine wpOp_mono (fun a' w' h => ?_) hdoes
    obtain ⟨v, rfl, hv, hB⟩ := h
    obtain ⟨d, hd⟩ : ∃ d, o.dst = some d := by
      have h1 := List.all_eq_true.1 hp i (List.mem_range.2 hlt)
      simp only [hi, hk, Bool.and_eq_true] at h1
      cases hd : o.dst with
      | some d => exact ⟨d, rfl⟩
      | none => simp [hd] at h1
    have hdn := (plan_dst hp hi hd).1
    rw [hd]
    refine ⟨by simpa [Act.put] using hI.size, hI.defers, hI.below.trans (hB.mono (Nat.le_trans hbase hsz)), hI.mono.trans (Mono.below hB), fun g hg hT => ?_, sameAll d v hd, ?_, fixedB _ hB, down', ?_⟩
    · rw [hB.block g (Nat.lt_of_lt_of_le hg hsz)]
      exact hI.far g hg hT
    · intro j hj hjl
      rcases hj with hj | rfl
      · exact keepAll d v w' hd hB j hj hjl
      · rw [hk, opAt_of hi, hd]
        show f.p w' (Act.vs _ d)
        rw [vs_put_eq (by rw [hI.size]; exact hdn)]
        exact hv
    · intro j k hj hk' hne hjl hkl hcj hck
      rcases hj with hj | rfl
      · rcases hk' with hk' | rfl
        · intro m g m' k2 e1 e2
          rw [vs_put_ne (newdst j hj hcj d hd)] at e1
          rw [vs_put_ne (newdst k hk' hck d hd)] at e2
          exact hI.apart j k hj hk' hne hjl hkl hcj hck m g m' k2 e1 e2
        · obtain ⟨n, c, mm, hc⟩ := hck
          rw [hk] at hc; cases hc
      · obtain ⟨n, c, mm, hc⟩ := hcj
        rw [hk] at hc; cases hc
  | new n c m =>
    rw [hk] at hdoes
    simp only [Does] at hdoes
    refine wpOp_mono (fun a' w' h => ?_) hdoes
    obtain ⟨t, cs, rfl, rfl, hok, hsn, hc⟩ := h
    obtain ⟨d, hd⟩ := plan_new hp hi hk
    have hdn := (plan_dst hp hi hd).1
    have hB : Below w.heap.size w (w.alloc (.cells cs t)) := (Below.refl _ _).alloc (Nat.le_refl _) _
    have hbx : Bx (w.alloc (.cells cs t)) w.heap.size t cs := heap_alloc_new w _
    rw [hd]
    refine ⟨by simpa [Act.put] using hI.size, hI.defers, hI.below.trans (hB.mono (Nat.le_trans hbase hsz)), hI.mono.trans (Mono.below hB), fun g hg hT => ?_, sameAll d _ hd, ?_, fixedB _ hB, down', ?_⟩
    · rw [hB.block g (Nat.lt_of_lt_of_le hg hsz)]
      exact hI.far g hg hT
    · intro j hj hjl
      rcases hj with hj | rfl
      · exact keepAll d _ _ hd hB j hj hjl
      · rw [hk, opAt_of hi, hd]
        have e : Act.vs (a.put (some d) (mk m w.heap.size)) d = mk m w.heap.size := vs_put_eq (by rw [hI.size]; exact hdn)
        rcases hc with rfl | rfl
        · exact ⟨w.heap.size, e, hsz, ⟨cs, t, hbx, hok, hsn⟩⟩
        · exact ⟨w.heap.size, e, hsz, ⟨cs, t, hbx, hok, hsn⟩, hbx⟩
    · have ptr : ∀ j, L j → j < ops.size → (∃ n c m, kdAt ks j = .new n c m) → ∃ m g, Act.vs a ((opAt ops j).getD 0) = mk m g ∧ g < w.heap.size := fun j hj hjl ⟨n, c, mm, hc⟩ => by
        have h1 := hI.facts j hj hjl
        rw [hc] at h1
        cases c with
        | none => obtain ⟨g, h2, _, h3⟩ := h1; exact ⟨mm, g, h2, h3.lt⟩
        | some c => obtain ⟨g, h2, _, h3, _⟩ := h1; exact ⟨mm, g, h2, h3.lt⟩
      have e : Act.vs (a.put (some d) (mk m w.heap.size)) d = mk m w.heap.size := vs_put_eq (by rw [hI.size]; exact hdn)
      intro j k hj hk' hne hjl hkl hcj hck m1 g1 m2 k2 e1 e2
      rcases hj with hj | rfl
      · rw [vs_put_ne (newdst j hj hcj d hd)] at e1
        rcases hk' with hk' | rfl
        · rw [vs_put_ne (newdst k hk' hck d hd)] at e2
          exact hI.apart j k hj hk' hne hjl hkl hcj hck m1 g1 m2 k2 e1 e2
        · rw [opAt_of hi, hd, Option.getD_some, e] at e2
          obtain ⟨_, g, h1, h2⟩ := ptr j hj hjl hcj
          have i1 := mk_inj (h1.symm.trans e1)
          have i2 := mk_inj e2
          omega
      · rw [opAt_of hi, hd, Option.getD_some, e] at e1
        rcases hk' with hk' | rfl
        · rw [vs_put_ne (newdst k hk' hck d hd)] at e2
          obtain ⟨_, g, h1, h2⟩ := ptr k hk' hkl hck
          have i1 := mk_inj (h1.symm.trans e2)
          have i2 := mk_inj e1
          omega
        · exact absurd rfl hne
  | put p q =>
    rw [hk] at hdoes
    simp only [Does] at hdoes
    refine wpOp_mono (fun a' w' h => ?_) hdoes
    obtain ⟨g, t, cs, rfl, hvp, hvq, hput, hgok, hcok, hbg⟩ := h
    obtain ⟨hnd, hsp, hsq, hdis⟩ := plan_put hp hi hk
    -- where the store goes
    have where_ : ∀ j, (L j ∨ j = i) → ∀ p' q', kdAt ks j = .put p' q' → ∀ o', ops[j]? = some o' → ∀ g', Act.vs a' p' = .pointer (some ⟨g', 0, none⟩) →
        (unwritten ops p' = true ∧ g' ∈ T ∧ g' < w0.heap.size) ∨ (∃ m, L m ∧ opAt ops m = some p' ∧ (∃ n, kdAt ks m = .new n none none) ∧ w0.heap.size ≤ g') := fun j hj p' q' hkj o' ho' g' hg' => by
      obtain ⟨_, hsp', _, _⟩ := plan_put hp ho' hkj
      rcases src_fixed hsp' with h | ⟨e, he, hb, hop, hnew⟩
      · left
        obtain ⟨g2, hg2, h1, h2⟩ := hfix.of p' (fixes_mem h hkj)
        rw [← hI.same p' fun j _ => unwritten_iff h j, hg'] at h1
        have := ptr_inj h1
        subst this
        exact ⟨h, hg2, h2⟩
      · right
        have hl : L e.on := by
          rcases hj with hj | rfl
          · exact hI.down j hj o' ho' e he hb
          · rw [hi] at ho'
            cases ho'
            exact hdeps e he hb
        refine ⟨e.on, hl, hop, hnew rfl, ?_⟩
        have h1 := hI.facts e.on hl (hL _ hl)
        obtain ⟨n, hnk⟩ := hnew rfl
        rw [hnk, hop] at h1
        obtain ⟨g2, h2, h3, _⟩ := h1
        simp only [Option.getD_some] at h2
        rw [hg'] at h2
        have := ptr_inj h2
        subst this
        exact h3
    have hM := Mono.put hput hgok hcok
    refine ⟨hI.size, hI.defers, hI.below.trans (hput.below base hbg), hI.mono.trans hM, fun k hk1 hT => ?_, fun s hs => hI.same s fun j hj => hs j (.inl hj), ?_, ?_, down', ?_⟩
    · have hne : k ≠ g := by
        rcases where_ i (.inr rfl) p q hk o hi g hvp with ⟨_, h1, _⟩ | ⟨m, _, _, _, h1⟩
        · intro e; subst e; exact hT h1
        · omega
      rw [hput.other k hne]
      exact hI.far k hk1 hT
    · intro j hj hjl
      rcases hj with hj | rfl
      · have h1 := hI.facts j hj hjl
        have hoj : ops[j]? = some ops[j] := by simp [hjl]
        cases hkj : kdAt ks j with
        | val f =>
          rw [hkj] at h1
          exact f.keep _ _ _ h1 hM
        | new n c m =>
          rw [hkj] at h1
          cases c with
          | none =>
            obtain ⟨g2, h2, h3, h4⟩ := h1
            exact ⟨g2, h2, h3, hM.ok g2 n h4⟩
          | some c =>
            obtain ⟨g2, h2, h3, h4, h5⟩ := h1
            refine ⟨g2, h2, h3, hM.ok g2 n h4, ?_⟩
            have hne : g2 ≠ g := by
              rcases where_ i (.inr rfl) p q hk o hi g hvp with ⟨_, _, h1⟩ | ⟨m, hm, hop, ⟨nm, hkm⟩, _⟩
              · omega
              · have hjm : j ≠ m := fun e => by subst e; rw [hkj] at hkm; cases hkm
                exact hI.apart j m hj hm hjm hjl (hL m hm) ⟨_, _, _, hkj⟩ ⟨_, _, _, hkm⟩ _ g2 none g h2 (by rw [hop, Option.getD_some, hvp]; rfl)
            exact (hput.other g2 hne).trans h5
        | put p' q' =>
          rw [hkj] at h1
          obtain ⟨g2, t2, cs2, h2, h3, h4⟩ := h1
          refine ⟨g2, t2, cs2, h2, h3, ?_⟩
          have hpp : p' ≠ p := by
            have hji : j ≠ i := fun e => hnot (e ▸ hj)
            rcases Nat.lt_or_gt_of_ne hji with hlt' | hlt'
            · exact hdis j p' q' hlt' hkj
            · obtain ⟨_, _, _, hd2⟩ := plan_put hp hoj hkj
              exact (hd2 i p q hlt' hk).symm
          have hne : g2 ≠ g := by
            rcases where_ i (.inr rfl) p q hk o hi g hvp with ⟨u1, _, l1⟩ | ⟨m, hm, hop, ⟨nm, hkm⟩, l1⟩
            · rcases where_ j (.inl hj) p' q' hkj _ hoj g2 h2 with ⟨u2, _, l2⟩ | ⟨m', hm', hop', ⟨nm', hkm'⟩, l2⟩
              · have := hfix.apart p' (fixes_mem u2 hkj) p (fixes_mem u1 hk) hpp
                rw [← hI.same p' fun j _ => unwritten_iff u2 j, ← hI.same p fun j _ => unwritten_iff u1 j, h2, hvp] at this
                intro e; subst e; exact this rfl
              · omega
            · rcases where_ j (.inl hj) p' q' hkj _ hoj g2 h2 with ⟨u2, _, l2⟩ | ⟨m', hm', hop', ⟨nm', hkm'⟩, l2⟩
              · omega
              · have hmm : m' ≠ m := fun e => by
                  subst e
                  rw [hop] at hop'
                  injection hop' with e2
                  exact hpp e2.symm
                exact hI.apart m' m hm' hm hmm (hL _ hm') (hL _ hm) ⟨_, _, _, hkm'⟩ ⟨_, _, _, hkm⟩ none g2 none g (by rw [hop', Option.getD_some, h2]; rfl) (by rw [hop, Option.getD_some, hvp]; rfl)
          exact (hput.other g2 hne).trans h4
      · rw [hk]
        exact ⟨g, t, cs, hvp, hvq, hput.blk⟩
    · intro j p' q' g2 hj hjl hkj hu hv
      have hgl := fixlt j p' q' g2 hkj hu hv
      have hji : j ≠ i := fun e => hj (.inr e)
      have hoj : ops[j]? = some ops[j] := by simp [hjl]
      have hne : g2 ≠ g := by
        rcases where_ i (.inr rfl) p q hk o hi g hvp with ⟨u1, _, _⟩ | ⟨m, _, _, _, l1⟩
        · have hpp : p' ≠ p := by
            rcases Nat.lt_or_gt_of_ne hji with hlt' | hlt'
            · exact hdis j p' q' hlt' hkj
            · obtain ⟨_, _, _, hd2⟩ := plan_put hp hoj hkj
              exact (hd2 i p q hlt' hk).symm
          have := hfix.apart p' (fixes_mem hu hkj) p (fixes_mem u1 hk) hpp
          rw [hv, ← hI.same p fun j _ => unwritten_iff u1 j, hvp] at this
          intro e; subst e; exact this rfl
        · omega
      rw [hput.other g2 hne]
      exact hI.fixed j p' q' g2 (fun h => hj (.inl h)) hjl hkj hu hv
    · intro j k hj hk' hne hjl hkl hcj hck
      rcases hj with hj | rfl
      · rcases hk' with hk' | rfl
        · exact hI.apart j k hj hk' hne hjl hkl hcj hck
        · obtain ⟨n, c, mm, hc⟩ := hck
          rw [hk] at hc; cases hc
      · obtain ⟨n, c, mm, hc⟩ := hcj
        rw [hk] at hc; cases hc

theorem Inv.weaken {ops : Array Oper} {ks : List Kd} {T : List Nat} {base : Nat} {a0 : Act} {w0 : World} {L L' : Nat → Prop} {a : Act} {w : World} (h : Inv ops ks T base a0 w0 L a w) (hl : ∀ i, L i ↔ L' i) : Inv ops ks T base a0 w0 L' a w := by
  have : L = L' := funext fun i => propext (hl i)
  subst this
  exact h
/-- What is known behind the region. -/
structure After (ops : Array Oper) (ks : List Kd) (T : List Nat) (base : Nat) (w0 w : World) (vs : Vs) : Prop where
  below : Below base w0 w
  mono : Mono w0 w
  far : ∀ k, k < w0.heap.size → k ∉ T → w.heap[k]? = w0.heap[k]?
  facts : ∀ i, i < ops.size → kdFact w0 (kdAt ks i) (opAt ops i) w vs
  apart : ∀ i j, i ≠ j → i < ops.size → j < ops.size → (∃ n c m, kdAt ks i = .new n c m) → (∃ n c m, kdAt ks j = .new n c m) → ∀ m g m' k, vs ((opAt ops i).getD 0) = mk m g → vs ((opAt ops j).getD 0) = mk m' k → g ≠ k

theorem inv_fill {ops : Array Oper} {ks : List Kd} {T : List Nat} {base : Nat} {a0 : Act} {w0 : World} {a : Act} {w : World} (hp : planOk a0.tmps.size ops ks = true)
    (hI : Inv ops ks T base a0 w0 (fun i => i < ops.size) a w) : a = ⟨fillL a0.tmps ops.toList 0 (fun i => Act.vs a ((opAt ops i).getD 0)), a0.defers⟩ := by
  have hd := hI.defers
  have hsz := hI.size
  obtain ⟨ts, ds⟩ := a
  simp only at hd hsz
  subst hd
  congr 1
  apply Array.ext
  · rw [fillL_size]; exact hsz
  intro t h1 h2
  have e2 : ∀ (x : Array Value) (h : t < x.size), x[t] = x.getD t undef := fun x h => by simp [h]
  rw [e2 _ h1, e2 _ h2]
  by_cases hex : ∃ (i : Nat) (o : Oper), ops[i]? = some o ∧ o.dst = some t
  · obtain ⟨i, o, ho, hot⟩ := hex
    rw [fillL_at ops.toList a0.tmps 0 _ t i o (by simpa using ho) hot (by omega) (fun m hm o' ho' hne => by
      have ho2 : ops[m]? = some o' := by simpa using ho'
      exact (plan_dst hp ho2 hne).2 i hm (by rw [opAt_of ho]; exact hot))]
    simp only [Nat.zero_add, opAt_of ho, hot, Option.getD_some]
    rfl
  · rw [fillL_other ops.toList _ _ _ _ (fun (o : Oper) ho hd => by
      obtain ⟨m, hm, rfl⟩ := List.mem_iff_getElem.1 ho
      exact hex ⟨m, ops.toList[m], by rw [← Array.getElem?_toList]; simp, hd⟩)]
    exact hI.same t fun i hi hd => by
      have hoi : ops[i]? = some ops[i] := by simp [hi]
      rw [opAt_of hoi] at hd
      exact hex ⟨i, ops[i], hoi, hd⟩

theorem wp_plan_end {ops : Array Oper} {Q : Exit → Act → World → Prop} {ks : List Kd} {T : List Nat} {base : Nat} {a0 : Act} {w0 : World} (hp : planOk a0.tmps.size ops ks = true)
    (hend : ∀ (g : Nat → Value) (ts : Array Value) w, fillL a0.tmps ops.toList 0 g = ts → After ops ks T base w0 w (fun t => ts.getD t undef) → Q .normal ⟨ts, a0.defers⟩ w)
    {a : Act} {w : World} (hI : Inv ops ks T base a0 w0 (fun i => i < ops.size) a w) : Q .normal a w := by
  have hf := inv_fill hp hI
  rw [hf]
  refine hend _ _ w rfl ?_
  have e : (fun t => (fillL a0.tmps ops.toList 0 (fun i => Act.vs a ((opAt ops i).getD 0))).getD t undef) = Act.vs a := by
    conv => rhs; rw [hf]
    rfl
  rw [e]
  exact ⟨hI.below, hI.mono, hI.far, fun i hi => hI.facts i hi hi, fun i j hne hi hj h1 h2 => hI.apart i j hi hj hne hi hj h1 h2⟩
theorem inv_start {ops : Array Oper} {ks : List Kd} {T : List Nat} {base : Nat} {a0 : Act} {w0 : World} : Inv ops ks T base a0 w0 (fun _ => False) a0 w0 :=
  ⟨rfl, rfl, Below.refl _ _, Mono.refl _, fun _ _ _ => rfl, fun _ _ => rfl, fun _ h => h.elim, fun _ _ _ _ _ _ _ _ _ => rfl, fun _ h => h.elim, fun _ _ h => h.elim⟩

/-- A region that runs in the order of the text. -/
theorem wp_plan_seq {P : Program} {id : Nat} {ops : Array Oper} {Q : Exit → Act → World → Prop} {a0 : Act} {w0 : World} (ks : List Kd) (ps T : List Nat) (base : Nat)
    (hp : planOk a0.tmps.size ops ks = true) (hps : fixes ops ks = ps) (hfix : Fix a0 w0 ps T) (hbase : base ≤ w0.heap.size) (hplan : Plan P ops Q ks T base a0 w0 0 ops.toList)
    (hend : ∀ (g : Nat → Value) (ts : Array Value) w, fillL a0.tmps ops.toList 0 g = ts → After ops ks T base w0 w (fun t => ts.getD t undef) → Q .normal ⟨ts, a0.defers⟩ w) :
    (Code.region id ops false).wp P Q a0 w0 := by
  subst hps
  refine wp_region ?_
  have key : ∀ (m k : Nat) (a : Act) (w : World), k + m = ops.size → Inv ops ks T base a0 w0 (fun i => i < k) a w → wpOps P ops Q (List.range' k m) a w := by
    intro m
    induction m with
    | zero =>
      intro k a w hk hI
      exact wp_plan_end hp hend (hI.weaken fun i => by omega)
    | succ m ih =>
      intro k a w hk hI
      rw [List.range'_succ, wpOps_cons]
      have hkl : k < ops.size := by omega
      have hok : ops[k]? = some ops[k] := by simp [hkl]
      refine wpOp_mono (fun a' w' h => ih (k + 1) a' w' (by omega) (h.weaken fun i => by omega)) (inv_step hp hfix hbase hplan hI (fun j hj => by omega) hok (by omega) fun e he hb => plan_dep hp hok e he hb)
  rw [List.range_eq_range']
  exact key ops.size 0 a0 w0 (by omega) ((inv_start (T := T)).weaken fun i => ⟨fun h => h.elim, fun h => absurd h (by omega)⟩)

/-- A region that draws its order. -/
theorem wp_plan_any {P : Program} {id : Nat} {ops : Array Oper} {Q : Exit → Act → World → Prop} {a0 : Act} {w0 : World} (ks : List Kd) (ps T : List Nat) (base : Nat) (hm : P.follows .mixedOrders = true)
    (hp : planOk a0.tmps.size ops ks = true) (hps : fixes ops ks = ps) (hfix : Fix a0 w0.drew ps T) (hbase : base ≤ w0.heap.size) (hplan : Plan P ops Q ks T base a0 w0.drew 0 ops.toList)
    (hend : ∀ (g : Nat → Value) (ts : Array Value) w, fillL a0.tmps ops.toList 0 g = ts → After ops ks T base w0.drew w (fun t => ts.getD t undef) → Q .normal ⟨ts, a0.defers⟩ w) :
    (Code.region id ops true).wp P Q a0 w0 := by
  subst hps
  refine wp_region_any hm ?_
  have key : ∀ (fuel : Nat) (listed : Array Bool) (a : Act) (w : World), listed.size = ops.size → unl listed ops.size ≤ fuel → Inv ops ks T base a0 w0.drew (fun i => listed.getD i false = true) a w → wpAny P .any ops Q fuel listed a w := by
    have inLt : ∀ {listed : Array Bool}, listed.size = ops.size → ∀ i, listed.getD i false = true → i < ops.size := fun hs i hi => by
      rw [← hs]
      rcases Nat.lt_or_ge i _ with h' | h'
      · exact h'
      · simp [Array.getElem?_eq_none h'] at hi
    have getD_tf : ∀ {listed : Array Bool} {i : Nat}, i < listed.size → listed.getD i true = listed.getD i false := fun h => by simp [h]
    have last : ∀ (listed : Array Bool) (a : Act) (w : World), listed.size = ops.size → Inv ops ks T base a0 w0.drew (fun i => listed.getD i false = true) a w → Region.ready .any ops listed = [] → Q .normal a w := by
      intro listed a w hs hI hr
      have all : ∀ n i, i < n → i < ops.size → listed.getD i false = true := by
        intro n
        induction n with
        | zero => intro i hi; omega
        | succ n ih =>
          intro i hin hi
          by_cases hlt : i < n
          · exact ih i hlt hi
          have hin' : i = n := by omega
          subst hin'
          have ho : ops[i]? = some ops[i] := by simp [hi]
          cases hli : listed.getD i true with
          | true => rw [← getD_tf (by omega)]; exact hli
          | false =>
            exfalso
            have : i ∈ Region.ready .any ops listed := mem_ready.2 ⟨hli, _, ho, fun e he hb => by
              have := plan_dep hp ho e he hb
              exact ih _ this (by omega)⟩
            rw [hr] at this
            cases this
      exact wp_plan_end hp hend (hI.weaken fun i => ⟨inLt hs i, fun h => all (i + 1) i (by omega) h⟩)
    intro fuel
    induction fuel with
    | zero =>
      intro listed a w hs hu hI
      have hr : Region.ready .any ops listed = [] := by
        apply List.eq_nil_iff_forall_not_mem.2
        intro i hi
        obtain ⟨hun, o, ho, _⟩ := mem_ready.1 hi
        have h1 := unl_set listed i hun ops.size
        rw [if_pos (Array.getElem?_eq_some_iff.1 ho).1] at h1
        omega
      exact ⟨hr, last listed a w hs hI hr⟩
    | succ fuel ih =>
      intro listed a w hs hu hI
      refine ⟨fun hr => last listed a w hs hI hr, fun i hi => ?_⟩
      obtain ⟨hun, o, ho, hall⟩ := mem_ready.1 hi
      have hlt : i < ops.size := (Array.getElem?_eq_some_iff.1 ho).1
      have h1 := unl_set listed i hun ops.size
      rw [if_pos hlt] at h1
      have hnot : ¬ listed.getD i false = true := by rw [← getD_tf (by omega), hun]; simp
      refine wpOp_mono (fun a' w' h => ih _ a' w' (by simpa using hs) (by omega) (h.weaken fun j => ?_)) (inv_step hp hfix (by simpa using hbase) hplan hI (inLt hs) ho hnot hall)
      by_cases hji : j = i
      · subst hji
        have : j < listed.size := by omega
        simp [this]
      · rw [Go.getD_set_ne false (Ne.symm hji)]
        exact ⟨fun h => h.resolve_right hji, fun h => .inl h⟩
  have hno : ∀ i, (Array.replicate ops.size false).getD i false = true → False := fun i h => by
    rcases Nat.lt_or_ge i ops.size with h' | h'
    · simp [h'] at h
    · simp [h'] at h
  refine key ops.size _ a0 _ (by simp) ?_ (inv_start.weaken fun i => ⟨fun h => h.elim, fun h => hno i h⟩)
  have := List.countP_le_length (p := fun i => !(Array.replicate ops.size false).getD i true) (l := List.range ops.size)
  simpa [unl] using this
end Go.Proofs.Ytdmahjbjlppeaaa

namespace Go.Proofs.Ytdmahjbjlppeaaa
open Go.RowKit

/-- The slice x reads as the number M, of N limbs at most. -/
structure Nz (N : Nat) (w : World) (x : Value) (M : Nat) : Prop where
  ex : ∃ A n c l, x = .slice A n c ∧ Sl w A n c l ∧ val l = M ∧ n ≤ N
theorem Az.mono {N : Nat} {v v' : World} {x : Value} {z : Int} (h : Az N v x z) (hM : Mono v v') : Az N v' x z := by
  obtain ⟨neg, A, n, c, l, rfl, hS, hz, hn⟩ := h
  exact ⟨neg, A, n, c, l, rfl, hM.sl _ _ _ _ hS, hz, hn⟩
theorem Cz.mono {v v' : World} {x : Value} {z : Int} (h : Cz v x z) (hM : Mono v v') : Cz v' x z := by
  obtain ⟨A, c, rfl, hS⟩ := h
  exact ⟨A, c, rfl, hM.sl _ _ _ _ hS⟩
theorem Nz.mono {N M : Nat} {v v' : World} {x : Value} (h : Nz N v x M) (hM : Mono v v') : Nz N v' x M := by
  obtain ⟨A, n, c, l, rfl, hS, hz, hn⟩ := h
  exact ⟨A, n, c, l, rfl, hM.sl _ _ _ _ hS, hz, hn⟩
theorem Az.shape {N : Nat} {v : World} {x : Value} {z : Int} (h : Az N v x z) : ∃ b A n c, x = .agg #[.bool b, .slice A n c] := by
  obtain ⟨neg, A, n, c, l, rfl, _⟩ := h
  exact ⟨_, _, _, _, rfl⟩
theorem Cz.shape {v : World} {x : Value} {z : Int} (h : Cz v x z) : ∃ b A n c, x = .agg #[.bool b, .slice A n c] := by
  obtain ⟨A, c, rfl, _⟩ := h
  exact ⟨_, _, _, _, rfl⟩
theorem Az.to {N N' : Nat} {v : World} {x : Value} {z : Int} (h : Az N v x z) (hN : N ≤ N') : Az N' v x z := by
  obtain ⟨neg, A, n, c, l, rfl, hS, hz, hn⟩ := h
  exact ⟨neg, A, n, c, l, rfl, hS, hz, by omega⟩
def Known.az (N : Nat) (z : Int) : Known := ⟨fun w x => Az N w x z, fun _ _ _ h hM => h.mono hM⟩
def Known.cz (z : Int) : Known := ⟨fun w x => Cz w x z, fun _ _ _ h hM => h.mono hM⟩
def Known.nz (N M : Nat) : Known := ⟨fun w x => Nz N w x M, fun _ _ _ h hM => h.mono hM⟩
def Known.tup2 (f g : Known) : Known := ⟨fun w x => ∃ r s, x = .tuple #[r, s] ∧ f.p w r ∧ g.p w s, fun _ _ _ ⟨r, s, e, h1, h2⟩ hM => ⟨r, s, e, f.keep _ _ _ h1 hM, g.keep _ _ _ h2 hM⟩⟩
def Known.tup3 (f g k : Known) : Known := ⟨fun w x => ∃ r s t, x = .tuple #[r, s, t] ∧ f.p w r ∧ g.p w s ∧ k.p w t, fun _ _ _ ⟨r, s, t, e, h1, h2, h3⟩ hM => ⟨r, s, t, e, f.keep _ _ _ h1 hM, g.keep _ _ _ h2 hM, k.keep _ _ _ h3 hM⟩⟩
/-- A call hands back what is known, and changes no elder memory. -/
def Ret (f : Known) (w : World) (e : Ending) (w' : World) : Prop := ∃ r, e = .returned r ∧ f.p w' r ∧ Below w.heap.size w w'
theorem okz (b : Bool) (A : Option Addr) (n c : Nat) : okCells #[.bool b, .slice A n c] := by
  intro j x
  match j with
  | 0 => simp
  | 1 => simp
  | j + 2 => simp
theorem Mono.drew (w : World) : Mono w w.drew := ⟨Nat.le_refl _, fun _ _ _ _ h => h.drew, fun _ _ h => h⟩
theorem below_toDrew {B : Nat} {w v : World} (h : Below B w v) : Below B w v.drew := below_drawn h ⟨1, rfl⟩
theorem nin1 {g a : Nat} (h : g ≠ a) : g ∉ [a] := by simpa using h
theorem nin2 {g a b : Nat} (h : g ≠ a) (h2 : g ≠ b) : g ∉ [a, b] := by simp [h, h2]

theorem nin3 {g a b c : Nat} (h : g ≠ a) (h2 : g ≠ b) (h3 : g ≠ c) : g ∉ [a, b, c] := by simp [h, h2, h3]
theorem nin4 {g a b c d : Nat} (h : g ≠ a) (h2 : g ≠ b) (h3 : g ≠ c) (h4 : g ≠ d) : g ∉ [a, b, c, d] := by simp [h, h2, h3, h4]

section
variable {P : Program} {ops : Array Oper} {Q : Exit → Act → World → Prop} {base i : Nat} {o : Oper} {a : Act} {w : World}
theorem does_val {f : Known} {v : Value} (hi : ops[i]? = some o) (hg : Region.wanted o (yielded ops a.tmps) = true) (he : (execOp a.eval o).run P w = .ok (.value v) w) (hv : f.p w v) : Does P ops Q base (.val f) i o a w := by
  unfold Does wpOp
  simp only [hi, hg, if_true]
  left
  unfold Oper.wp
  rw [he]
  exact ⟨v, rfl, hv, Below.refl _ _⟩
theorem does_skip {f : Known} (hi : ops[i]? = some o) (hg : Region.wanted o (yielded ops a.tmps) = false) (hv : f.p w undef) : Does P ops Q base (.val f) i o a w := by
  unfold Does wpOp
  simp only [hi, hg, Bool.false_eq_true, if_false]
  exact ⟨undef, rfl, hv, Below.refl _ _⟩
theorem does_call {f : Known} {fn : FuncId} {args : Array Value} (hi : ops[i]? = some o) (hg : Region.wanted o (yielded ops a.tmps) = true) (he : (execOp a.eval o).run P w = .ok (.enter fn args) w)
    (hc : Calls P fn args w (Ret f w)) : Does P ops Q base (.val f) i o a w := by
  unfold Does wpOp
  simp only [hi, hg, if_true]
  left
  unfold Oper.wp
  rw [he]
  refine hc.mono fun e w' h => ?_
  obtain ⟨v, rfl, hv, hB⟩ := h
  exact ⟨v, rfl, hv, hB⟩
theorem does_new {n : Nat} {t : TypeId} {cs : Array Value} {c : Option (TypeId × Array Value)} (hi : ops[i]? = some o) (hg : Region.wanted o (yielded ops a.tmps) = true)
    (he : (execOp a.eval o).run P w = .ok (.value (.pointer (some ⟨w.heap.size, 0, none⟩))) (w.alloc (.cells cs t))) (hk : okCells cs) (hn : cs.size = n) (hc : c = none ∨ c = some (t, cs)) : Does P ops Q base (.new n c) i o a w := by
  unfold Does wpOp
  simp only [hi, hg, if_true]
  left
  unfold Oper.wp
  rw [he]
  exact ⟨t, cs, rfl, rfl, hk, hn, hc⟩
/-- The guard of an operation, by what is known of the operation that it looks at. -/
theorem wanted_by {j : Nat} {want b : Bool} {d : Nat} (hgd : o.guard = some (j, want)) (hd : opAt ops j = some d) (h : Act.vs a d = .bool b) : Region.wanted o (yielded ops a.tmps) = (b == want) := by
  refine wanted_of hgd ?_ ?_
  · rw [show (ops[j]?).bind (·.dst) = opAt ops j from rfl, hd]; rfl
  · rw [dstOf, show (ops[j]?).bind (·.dst) = opAt ops j from rfl, hd]; exact h
end

section
variable {P : Program} {d : Option Tmp} {ty : TypeId} {pos : String} {after : Array Edge} {guard : Option (Nat × Bool)} {a : Act} {w : World}
theorem x_call0 {f : FuncId} {T : Array TypeId} (hc : ∀ args w, (callFunc f args).run P w = .ok (.enter f args) w) :
    (execOp a.eval ⟨d, .call { callee := .value (.func f), args := #[], argTypes := T }, ty, pos, after, guard⟩).run P w = .ok (.enter f #[]) w := by
  rw [execOp_call_go, hc]
  simp
theorem x_call1 {f : FuncId} {T : Array TypeId} {x : Operand} (hc : ∀ args w, (callFunc f args).run P w = .ok (.enter f args) w) :
    (execOp a.eval ⟨d, .call { callee := .value (.func f), args := #[x], argTypes := T }, ty, pos, after, guard⟩).run P w = .ok (.enter f #[a.eval x]) w := by
  rw [execOp_call_go, hc]
  simp
theorem x_call2 {f : FuncId} {T : Array TypeId} {x y : Operand} (hc : ∀ args w, (callFunc f args).run P w = .ok (.enter f args) w) :
    (execOp a.eval ⟨d, .call { callee := .value (.func f), args := #[x, y], argTypes := T }, ty, pos, after, guard⟩).run P w = .ok (.enter f #[a.eval x, a.eval y]) w := by
  rw [execOp_call_go, hc]
  simp
theorem x_call3 {f : FuncId} {T : Array TypeId} {x y z : Operand} (hc : ∀ args w, (callFunc f args).run P w = .ok (.enter f args) w) :
    (execOp a.eval ⟨d, .call { callee := .value (.func f), args := #[x, y, z], argTypes := T }, ty, pos, after, guard⟩).run P w = .ok (.enter f #[a.eval x, a.eval y, a.eval z]) w := by
  rw [execOp_call_go, hc]
  simp
theorem x_not {B : TypeId} {x : Operand} {b : Bool} (h : a.eval x = .bool b) : (execOp a.eval ⟨d, .unOp .not B x, ty, pos, after, guard⟩).run P w = .ok (.value (.bool (!b))) w := by
  simp only [execOp, h]
  go_simp
theorem x_move {x : Operand} : (execOp a.eval ⟨d, .move x, ty, pos, after, guard⟩).run P w = .ok (.value (a.eval x)) w := by
  simp only [execOp]
  go_simp
theorem x_assign {x : Operand} : (execOp a.eval ⟨d, .assign x, ty, pos, after, guard⟩).run P w = .ok (.value (a.eval x)) w := by
  simp only [execOp]
  go_simp
theorem x_pick {x y z : Operand} {b : Bool} (h : a.eval x = .bool b) : (execOp a.eval ⟨d, .pick x y z, ty, pos, after, guard⟩).run P w = .ok (.value (if b then a.eval y else a.eval z)) w := by
  simp only [execOp, h]
  cases b <;> rfl
theorem x_ext {x : Operand} {k : Nat} {vs : Array Value} {v : Value} (h : a.eval x = .tuple vs) (hk : vs[k]? = some v) : (execOp a.eval ⟨d, .extract x k, ty, pos, after, guard⟩).run P w = .ok (.value v) w := by
  simp only [execOp, h]
  simp [go_sem, hk]
theorem x_lss {T T' : TypeId} {x y : Operand} {m n : Int} {k : IntKind} (hx : a.eval x = .int k m) (hy : a.eval y = .int k n) : (execOp a.eval ⟨d, .binOp .lss T x y T', ty, pos, after, guard⟩).run P w = .ok (.value (.bool (decide (m < n)))) w := by
  simp only [execOp, hx, hy]
  go_simp
theorem x_gtr {T T' : TypeId} {x y : Operand} {m n : Int} {k : IntKind} (hx : a.eval x = .int k m) (hy : a.eval y = .int k n) : (execOp a.eval ⟨d, .binOp .gtr T x y T', ty, pos, after, guard⟩).run P w = .ok (.value (.bool (decide (n < m)))) w := by
  simp only [execOp, hx, hy]
  go_simp
theorem x_geq {T T' : TypeId} {x y : Operand} {m n : Int} {k : IntKind} (hx : a.eval x = .int k m) (hy : a.eval y = .int k n) : (execOp a.eval ⟨d, .binOp .geq T x y T', ty, pos, after, guard⟩).run P w = .ok (.value (.bool (decide (n ≤ m)))) w := by
  simp only [execOp, hx, hy]
  go_simp
theorem x_leq {T T' : TypeId} {x y : Operand} {m n : Int} {k : IntKind} (hx : a.eval x = .int k m) (hy : a.eval y = .int k n) : (execOp a.eval ⟨d, .binOp .leq T x y T', ty, pos, after, guard⟩).run P w = .ok (.value (.bool (decide (m ≤ n)))) w := by
  simp only [execOp, hx, hy]
  go_simp
end
end Go.Proofs.Ytdmahjbjlppeaaa

namespace Go.Proofs.Ytdmahjbjlppeaaa
open Go.RowKit

section
variable {d : Option Tmp} {ty : TypeId} {pos : String} {after : Array Edge} {guard : Option (Nat × Bool)} {a : Act} {w : World}
theorem x_eql_int {x y : Operand} {m n : Int} (hx : a.eval x = .int .i64 m) (hy : a.eval y = .int .i64 n) : (execOp a.eval ⟨d, .binOp .eql 3 x y 3, ty, pos, after, guard⟩).run Try.prog w = .ok (.value (.bool (m == n))) w := by
  simp only [execOp, hx, hy]
  go_simp
theorem x_neq_int {x y : Operand} {m n : Int} (hx : a.eval x = .int .i64 m) (hy : a.eval y = .int .i64 n) : (execOp a.eval ⟨d, .binOp .neq 3 x y 3, ty, pos, after, guard⟩).run Try.prog w = .ok (.value (.bool (!(m == n)))) w := by
  simp only [execOp, hx, hy]
  go_simp
  try rfl
theorem x_eql_err {x y : Operand} {m n : Int} (hx : a.eval x = .int .i64 m) (hy : a.eval y = .int .i64 n) : (execOp a.eval ⟨d, .binOp .eql 25 x y 25, ty, pos, after, guard⟩).run Try.prog w = .ok (.value (.bool (m == n))) w := by
  simp only [execOp, hx, hy]
  go_simp
theorem x_neq_err {x y : Operand} {m n : Int} (hx : a.eval x = .int .i64 m) (hy : a.eval y = .int .i64 n) : (execOp a.eval ⟨d, .binOp .neq 25 x y 25, ty, pos, after, guard⟩).run Try.prog w = .ok (.value (.bool (!(m == n)))) w := by
  simp only [execOp, hx, hy]
  go_simp
  try rfl
theorem x_eql_u64 {x y : Operand} {m n : Int} (hx : a.eval x = .int .u64 m) (hy : a.eval y = .int .u64 n) : (execOp a.eval ⟨d, .binOp .eql 81 x y 81, ty, pos, after, guard⟩).run Try.prog w = .ok (.value (.bool (m == n))) w := by
  simp only [execOp, hx, hy]
  go_simp
theorem x_eql_bool {x y : Operand} {m n : Bool} (hx : a.eval x = .bool m) (hy : a.eval y = .bool n) : (execOp a.eval ⟨d, .binOp .eql 4 x y 4, ty, pos, after, guard⟩).run Try.prog w = .ok (.value (.bool (m == n))) w := by
  simp only [execOp, hx, hy]
  go_simp
theorem x_neq_bool {x y : Operand} {m n : Bool} (hx : a.eval x = .bool m) (hy : a.eval y = .bool n) : (execOp a.eval ⟨d, .binOp .neq 4 x y 4, ty, pos, after, guard⟩).run Try.prog w = .ok (.value (.bool (!(m == n)))) w := by
  simp only [execOp, hx, hy]
  go_simp
  try rfl
theorem x_add {T' : TypeId} {x y : Operand} {m n : Int} (hx : a.eval x = .int .i64 m) (hy : a.eval y = .int .i64 n) (h : IntKind.i64.wrap (m + n) = m + n) : (execOp a.eval ⟨d, .binOp .add 3 x y T', ty, pos, after, guard⟩).run Try.prog w = .ok (.value (.int .i64 (m + n))) w := by
  simp only [execOp, hx, hy]
  go_simp
theorem x_sub {T' : TypeId} {x y : Operand} {m n : Int} (hx : a.eval x = .int .i64 m) (hy : a.eval y = .int .i64 n) (h : IntKind.i64.wrap (m - n) = m - n) : (execOp a.eval ⟨d, .binOp .sub 3 x y T', ty, pos, after, guard⟩).run Try.prog w = .ok (.value (.int .i64 (m - n))) w := by
  simp only [execOp, hx, hy]
  go_simp
theorem x_load_z {x : Operand} {g : Nat} {t : TypeId} {b s : Value} (hx : a.eval x = .pointer (some ⟨g, 0, none⟩)) (hB : Bx w g t #[b, s]) :
    (execOp a.eval ⟨d, .load 24 x, ty, pos, after, guard⟩).run Try.prog w = .ok (.value (.agg #[b, s])) w := by
  have h0 : w.cell? ⟨g, 0, none⟩ = some b := cell_of_row w g 0 _ t (0, 0) hB
  have h1 : w.cell? ⟨g, 1, none⟩ = some s := cell_of_row w g 1 _ t (0, 0) hB
  simp only [execOp, hx]
  go_simp
theorem x_fld {x : Operand} {g : Nat} {k : Nat} (hk : k < 2) (hx : a.eval x = .pointer (some ⟨g, 0, none⟩)) :
    (execOp a.eval ⟨d, .fieldAddr 24 x k, ty, pos, after, guard⟩).run Try.prog w = .ok (.value (.pointer (some ⟨g, k, none⟩))) w := by
  simp only [execOp, hx]
  match k, hk with
  | 0, _ => go_simp
  | 1, _ => go_simp
theorem x_load_b {x : Operand} {g : Nat} {t : TypeId} {b s : Value} (hx : a.eval x = .pointer (some ⟨g, 0, none⟩)) (hB : Bx w g t #[b, s]) :
    (execOp a.eval ⟨d, .load 4 x, ty, pos, after, guard⟩).run Try.prog w = .ok (.value b) w := by
  have h0 : w.cell? ⟨g, 0, none⟩ = some b := cell_of_row w g 0 _ t (0, 0) hB
  simp only [execOp, hx]
  go_simp
theorem x_load_s {x : Operand} {g : Nat} {t : TypeId} {b s : Value} (hx : a.eval x = .pointer (some ⟨g, 1, none⟩)) (hB : Bx w g t #[b, s]) :
    (execOp a.eval ⟨d, .load 22 x, ty, pos, after, guard⟩).run Try.prog w = .ok (.value s) w := by
  have h1 : w.cell? ⟨g, 1, none⟩ = some s := cell_of_row w g 1 _ t (0, 0) hB
  simp only [execOp, hx]
  go_simp
theorem x_alloc_z : (execOp a.eval ⟨d, .alloc 24, ty, pos, after, guard⟩).run Try.prog w = .ok (.value (.pointer (some ⟨w.heap.size, 0, none⟩))) (w.alloc (.cells #[.bool false, .slice none 0 0] 24)) := by
  simp only [execOp]
  go_simp
theorem x_box_z {x : Operand} {b s : Value} (hx : a.eval x = .agg #[b, s]) :
    (execOp a.eval ⟨d, .box 24 x, ty, pos, after, guard⟩).run Try.prog w = .ok (.value (.pointer (some ⟨w.heap.size, 0, none⟩))) (w.alloc (.cells #[b, s] 24)) := by
  simp only [execOp, hx]
  go_simp
theorem x_build0 : (execOp a.eval ⟨d, .build 24 #[], ty, pos, after, guard⟩).run Try.prog w = .ok (.value (.agg #[.bool false, .slice none 0 0])) w := by
  simp only [execOp]
  go_simp
theorem x_build1 {y : Operand} {A : Option Addr} {n c : Nat} (hy : a.eval y = .slice A n c) : (execOp a.eval ⟨d, .build 24 #[(1, y)], ty, pos, after, guard⟩).run Try.prog w = .ok (.value (.agg #[.bool false, .slice A n c])) w := by
  simp only [execOp, List.map_toArray, List.map_cons, List.map_nil, hy]
  go_simp
theorem x_build2 {x y : Operand} {b : Bool} {A : Option Addr} {n c : Nat} (hx : a.eval x = .bool b) (hy : a.eval y = .slice A n c) : (execOp a.eval ⟨d, .build 24 #[(0, x), (1, y)], ty, pos, after, guard⟩).run Try.prog w = .ok (.value (.agg #[.bool b, .slice A n c])) w := by
  simp only [execOp, List.map_toArray, List.map_cons, List.map_nil, hx, hy]
  go_simp
theorem x_len {t : Tmp} {A : Option Addr} {n c : Nat} (hx : Act.vs a t = .slice A n c) : (execOp a.eval ⟨d, .call { callee := .builtin .len, args := #[.tmp t], argTypes := #[22] }, ty, pos, after, guard⟩).run Try.prog w = .ok (.value (.int .i64 n)) w := by
  have e : a.tmps[t]?.getD undef = .slice A n c := by rw [← hx]; simp [Act.vs]
  simp [go_sem, e]
theorem bx_put {g : Nat} {t : TypeId} {b' s' : Value} (hB : Bx w g t #[b', s']) (v : Value) (u : Value) : Bx ((w.setCell ⟨g, 0, none⟩ v).setCell ⟨g, 1, none⟩ u) g t #[v, u] := by
  unfold Bx at hB ⊢
  simp [World.setCell, Array.getElem?_modify, hB]
theorem put_of {g : Nat} {t : TypeId} {b' s' : Value} (hB : Bx w g t #[b', s']) (v u : Value) : PutOf w g t #[v, u] ((w.setCell ⟨g, 0, none⟩ v).setCell ⟨g, 1, none⟩ u) := by
  refine ⟨?_, fun k hk => ?_, by simp [World.setCell], fun B hb => ((Below.refl B w).setCell (p := ⟨g, 0, none⟩) hb v).setCell (p := ⟨g, 1, none⟩) hb u⟩
  · unfold Bx at hB ⊢
    simp [World.setCell, Array.getElem?_modify, hB]
  · rw [Below.heap_setCell _ ⟨g, 1, none⟩ u k hk, Below.heap_setCell _ ⟨g, 0, none⟩ v k hk]
theorem x_store_z {x y : Operand} {g : Nat} {t : TypeId} {b : Bool} {A : Option Addr} {n c : Nat} {b' s' : Value} (hx : a.eval x = .pointer (some ⟨g, 0, none⟩)) (hy : a.eval y = .agg #[.bool b, .slice A n c]) (hB : Bx w g t #[b', s']) :
    (execOp a.eval ⟨d, .store 24 x y, ty, pos, after, guard⟩).run Try.prog w = .ok .skip ((w.setCell ⟨g, 0, none⟩ (.bool b)).setCell ⟨g, 1, none⟩ (.slice A n c)) := by
  have h0 : w.cell? ⟨g, 0, none⟩ = some b' := cell_of_row w g 0 _ t (0, 0) hB
  have h1 : w.cell? ⟨g, 1, none⟩ = some s' := cell_of_row w g 1 _ t (0, 0) hB
  have hf : ∀ i, w.frozen? ⟨g, i, none⟩ = false := fun i => by
    unfold Bx at hB
    simp [World.frozen?, hB]
  have hB2 : Bx (w.setCell ⟨g, 0, none⟩ (.bool b)) g t #[.bool b, s'] := by
    unfold Bx at hB ⊢
    simp [World.setCell, Array.getElem?_modify, hB]
  have k1 : (w.setCell ⟨g, 0, none⟩ (.bool b)).cell? ⟨g, 1, none⟩ = some s' := cell_of_row _ g 1 _ t (0, 0) hB2
  have kf : ∀ i, (w.setCell ⟨g, 0, none⟩ (.bool b)).frozen? ⟨g, i, none⟩ = false := fun i => by
    unfold Bx at hB2
    simp [World.frozen?, hB2]
  simp only [execOp, hx, hy]
  go_simp
end
end Go.Proofs.Ytdmahjbjlppeaaa

namespace Go.Proofs.Ytdmahjbjlppeaaa
open Go.RowKit

theorem does_put_z {ops : Array Oper} {Q : Exit → Act → World → Prop} {base i : Nat} {a : Act} {w : World} {p q : Tmp} {ty : TypeId} {pos : String} {after : Array Edge} {guard : Option (Nat × Bool)} {g : Nat}
    (hi : ops[i]? = some ⟨none, .store 24 (.tmp p) (.tmp q), ty, pos, after, guard⟩) (hg : Region.wanted ⟨none, .store 24 (.tmp p) (.tmp q), ty, pos, after, guard⟩ (yielded ops a.tmps) = true)
    (hp : Act.vs a p = .pointer (some ⟨g, 0, none⟩)) (hq : ∃ b A n c, Act.vs a q = .agg #[.bool b, .slice A n c]) (hok : OkB w g 2) (hb : base ≤ g) :
    Does Try.prog ops Q base (.put p q) i ⟨none, .store 24 (.tmp p) (.tmp q), ty, pos, after, guard⟩ a w := by
  have hok2 := hok
  obtain ⟨cs, t, hB, _, hsz⟩ := hok
  obtain ⟨x0, x1, rfl⟩ := Go.Joins.array2 hsz
  obtain ⟨b, A, n, c, hq⟩ := hq
  unfold Does wpOp
  simp only [hi, hg, if_true]
  left
  unfold Oper.wp
  have e1 : a.eval (.tmp p) = .pointer (some ⟨g, 0, none⟩) := hp
  have e2 : a.eval (.tmp q) = .agg #[.bool b, .slice A n c] := hq
  rw [x_store_z e1 e2 hB]
  exact ⟨g, t, _, rfl, hp, hq, put_of hB _ _, hok2, okz b A n c, hb⟩

section
variable {fn : Func} {tmps : Array Value} {w : World}
theorem ret_c {t : Tmp} {g : Nat} {ty : TypeId} {b s : Value} (h : fn.results = #[.cell t 24]) (hp : tmps.getD t undef = .pointer (some ⟨g, 0, none⟩)) (hB : Bx w g ty #[b, s]) :
    (results fn tmps).run Try.prog w = .ok (.agg #[b, s]) w := by
  have h0 : w.cell? ⟨g, 0, none⟩ = some b := cell_of_row w g 0 _ ty (0, 0) hB
  have h1 : w.cell? ⟨g, 1, none⟩ = some s := cell_of_row w g 1 _ ty (0, 0) hB
  have hp2 : tmps[t]?.getD undef = .pointer (some ⟨g, 0, none⟩) := by rw [← hp]; simp
  simp [results, h, hp2, go_sem, h0, h1]
theorem ret_ct {t u : Tmp} {g : Nat} {ty : TypeId} {b s : Value} (h : fn.results = #[.cell t 24, .tmp u]) (hp : tmps.getD t undef = .pointer (some ⟨g, 0, none⟩)) (hB : Bx w g ty #[b, s]) :
    (results fn tmps).run Try.prog w = .ok (.tuple #[.agg #[b, s], tmps.getD u undef]) w := by
  have h0 : w.cell? ⟨g, 0, none⟩ = some b := cell_of_row w g 0 _ ty (0, 0) hB
  have h1 : w.cell? ⟨g, 1, none⟩ = some s := cell_of_row w g 1 _ ty (0, 0) hB
  have hp2 : tmps[t]?.getD undef = .pointer (some ⟨g, 0, none⟩) := by rw [← hp]; simp
  simp [results, h, hp2, go_sem, h0, h1]
theorem ret_cc {t t' : Tmp} {g g' : Nat} {ty ty' : TypeId} {b s b' s' : Value} (h : fn.results = #[.cell t 24, .cell t' 24]) (hp : tmps.getD t undef = .pointer (some ⟨g, 0, none⟩)) (hB : Bx w g ty #[b, s])
    (hp' : tmps.getD t' undef = .pointer (some ⟨g', 0, none⟩)) (hB' : Bx w g' ty' #[b', s']) : (results fn tmps).run Try.prog w = .ok (.tuple #[.agg #[b, s], .agg #[b', s']]) w := by
  have h0 : w.cell? ⟨g, 0, none⟩ = some b := cell_of_row w g 0 _ ty (0, 0) hB
  have h1 : w.cell? ⟨g, 1, none⟩ = some s := cell_of_row w g 1 _ ty (0, 0) hB
  have k0 : w.cell? ⟨g', 0, none⟩ = some b' := cell_of_row w g' 0 _ ty' (0, 0) hB'
  have k1 : w.cell? ⟨g', 1, none⟩ = some s' := cell_of_row w g' 1 _ ty' (0, 0) hB'
  have hp2 : tmps[t]?.getD undef = .pointer (some ⟨g, 0, none⟩) := by rw [← hp]; simp
  have hp3 : tmps[t']?.getD undef = .pointer (some ⟨g', 0, none⟩) := by rw [← hp']; simp
  simp [results, h, hp2, hp3, go_sem, h0, h1, k0, k1]
theorem ret_cct {t t' u : Tmp} {g g' : Nat} {ty ty' : TypeId} {b s b' s' : Value} (h : fn.results = #[.cell t 24, .cell t' 24, .tmp u]) (hp : tmps.getD t undef = .pointer (some ⟨g, 0, none⟩)) (hB : Bx w g ty #[b, s])
    (hp' : tmps.getD t' undef = .pointer (some ⟨g', 0, none⟩)) (hB' : Bx w g' ty' #[b', s']) : (results fn tmps).run Try.prog w = .ok (.tuple #[.agg #[b, s], .agg #[b', s'], tmps.getD u undef]) w := by
  have h0 : w.cell? ⟨g, 0, none⟩ = some b := cell_of_row w g 0 _ ty (0, 0) hB
  have h1 : w.cell? ⟨g, 1, none⟩ = some s := cell_of_row w g 1 _ ty (0, 0) hB
  have k0 : w.cell? ⟨g', 0, none⟩ = some b' := cell_of_row w g' 0 _ ty' (0, 0) hB'
  have k1 : w.cell? ⟨g', 1, none⟩ = some s' := cell_of_row w g' 1 _ ty' (0, 0) hB'
  have hp2 : tmps[t]?.getD undef = .pointer (some ⟨g, 0, none⟩) := by rw [← hp]; simp
  have hp3 : tmps[t']?.getD undef = .pointer (some ⟨g', 0, none⟩) := by rw [← hp']; simp
  simp [results, h, hp2, hp3, go_sem, h0, h1, k0, k1]
theorem ret_ccc {t t' u : Tmp} {g g' k : Nat} {ty ty' ty2 : TypeId} {b s b' s' b2 s2 : Value} (h : fn.results = #[.cell t 24, .cell t' 24, .cell u 24]) (hp : tmps.getD t undef = .pointer (some ⟨g, 0, none⟩)) (hB : Bx w g ty #[b, s])
    (hp' : tmps.getD t' undef = .pointer (some ⟨g', 0, none⟩)) (hB' : Bx w g' ty' #[b', s']) (hq : tmps.getD u undef = .pointer (some ⟨k, 0, none⟩)) (hC : Bx w k ty2 #[b2, s2]) : (results fn tmps).run Try.prog w = .ok (.tuple #[.agg #[b, s], .agg #[b', s'], .agg #[b2, s2]]) w := by
  have h0 : w.cell? ⟨g, 0, none⟩ = some b := cell_of_row w g 0 _ ty (0, 0) hB
  have h1 : w.cell? ⟨g, 1, none⟩ = some s := cell_of_row w g 1 _ ty (0, 0) hB
  have k0 : w.cell? ⟨g', 0, none⟩ = some b' := cell_of_row w g' 0 _ ty' (0, 0) hB'
  have k1 : w.cell? ⟨g', 1, none⟩ = some s' := cell_of_row w g' 1 _ ty' (0, 0) hB'
  have l0 : w.cell? ⟨k, 0, none⟩ = some b2 := cell_of_row w k 0 _ ty2 (0, 0) hC
  have l1 : w.cell? ⟨k, 1, none⟩ = some s2 := cell_of_row w k 1 _ ty2 (0, 0) hC
  have hp2 : tmps[t]?.getD undef = .pointer (some ⟨g, 0, none⟩) := by rw [← hp]; simp
  have hp3 : tmps[t']?.getD undef = .pointer (some ⟨g', 0, none⟩) := by rw [← hp']; simp
  have hp4 : tmps[u]?.getD undef = .pointer (some ⟨k, 0, none⟩) := by rw [← hq]; simp
  simp [results, h, hp2, hp3, hp4, go_sem, h0, h1, k0, k1, l0, l1]
end

theorem Az.at {N : Nat} {w : World} {x y : Value} {z : Int} (h : Az N w x z) (e : y = x) : Az N w y z := e ▸ h
theorem Cz.at {w : World} {x y : Value} {z : Int} (h : Cz w x z) (e : y = x) : Cz w y z := e ▸ h
theorem Nz.at {N M : Nat} {w : World} {x y : Value} (h : Nz N w x M) (e : y = x) : Nz N w y M := e ▸ h
theorem Az.parts {N : Nat} {v : World} {x : Value} {z : Int} (h : Az N v x z) : ∃ neg A n c M, x = .agg #[.bool neg, .slice A n c] ∧ Nz N v (.slice A n c) M ∧ zof neg M = z := by
  obtain ⟨neg, A, n, c, l, rfl, hS, hz, hn⟩ := h
  exact ⟨neg, A, n, c, val l, rfl, ⟨A, n, c, l, rfl, hS, rfl, hn⟩, hz⟩
theorem cz_zero (w : World) : Cz w (.agg #[.bool false, .slice none 0 0]) 0 := ⟨none, 0, by simp [digs_zero], by simpa [digs_zero] using Sl.nil w none 0⟩
theorem Bx.ok2 {w : World} {g : Nat} {t : TypeId} {b : Bool} {A : Option Addr} {n c : Nat} (h : Bx w g t #[.bool b, .slice A n c]) : OkB w g 2 := ⟨_, t, h, okz b A n c, rfl⟩
theorem new_at {w0 w : World} {n : Nat} {d : Option Tmp} {vs : Vs} (h : kdFact w0 (.new n none) d w vs) : ∃ q, vs (d.getD 0) = .pointer (some ⟨q, 0, none⟩) ∧ w0.heap.size ≤ q ∧ OkB w q n := h
theorem put_info {X Y : Value} {w : World} {q : Nat} (h : ∃ g t cs, X = .pointer (some ⟨g, 0, none⟩) ∧ Y = .agg cs ∧ Bx w g t cs) (hp : X = .pointer (some ⟨q, 0, none⟩)) (hs : ∃ b A n c, Y = .agg #[.bool b, .slice A n c]) :
    ∃ t b A n c, Y = .agg #[.bool b, .slice A n c] ∧ Bx w q t #[.bool b, .slice A n c] := by
  obtain ⟨g, t, cs, h1, h2, h3⟩ := h
  obtain ⟨b, A, n, c, h4⟩ := hs
  have := ptr_inj (h1.symm.trans hp)
  subst this
  rw [h2] at h4
  injection h4 with h4
  subst h4
  exact ⟨t, b, A, n, c, h2, h3⟩
theorem put_lit {X Y : Value} {w : World} {q : Nat} {cs' : Array Value} (h : ∃ g t cs, X = .pointer (some ⟨g, 0, none⟩) ∧ Y = .agg cs ∧ Bx w g t cs) (hp : X = .pointer (some ⟨q, 0, none⟩)) (hs : Y = .agg cs') : ∃ t, Bx w q t cs' := by
  obtain ⟨g, t, cs, h1, h2, h3⟩ := h
  have := ptr_inj (h1.symm.trans hp)
  subst this
  rw [h2] at hs
  injection hs with h4
  subst h4
  exact ⟨t, h3⟩
theorem apart_ne {X Y : Value} {g k : Nat} (h : X ≠ Y) (h1 : X = .pointer (some ⟨g, 0, none⟩)) (h2 : Y = .pointer (some ⟨k, 0, none⟩)) : g ≠ k := fun e => h (by rw [h1, h2, e])
theorem tup2_at {f g : Known} {w : World} {x : Value} (h : (Known.tup2 f g).p w x) : ∃ r s, x = .tuple #[r, s] ∧ f.p w r ∧ g.p w s := h
theorem tup3_at {f g k : Known} {w : World} {x : Value} (h : (Known.tup3 f g k).p w x) : ∃ r s t, x = .tuple #[r, s, t] ∧ f.p w r ∧ g.p w s ∧ k.p w t := h
theorem then_normal {K : Act → World → Prop} {Q : Exit → Act → World → Prop} {a : Act} {w : World} (h : K a w) : Exit.then K Q .normal a w := h
theorem exit_then {K : Act → World → Prop} {Q : Exit → Act → World → Prop} {n : Nat} {a : Act} {w : World} (h : Q (.exit n) a w) : Exit.then K Q (.exit n) a w := h
theorem exit_block {Q : Exit → Act → World → Prop} {n : Nat} {a : Act} {w : World} (h : Q .normal a w) : Exit.inBlock n Q (.exit n) a w := by simpa [Exit.inBlock] using h
theorem block_normal {Q : Exit → Act → World → Prop} {n : Nat} {a : Act} {w : World} (h : Q .normal a w) : Exit.inBlock n Q .normal a w := h
end Go.Proofs.Ytdmahjbjlppeaaa
