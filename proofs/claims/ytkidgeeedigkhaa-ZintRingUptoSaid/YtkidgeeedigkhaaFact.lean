/- A region that draws its order: one fact for each operation's value, whatever the order. -/
import Derived.Test.YtkidgeeedigkhaaMem
import Derived.Orders
namespace Go.Proofs.Ytkidgeeedigkhaa
open Go.RowKit

/-- The slot that operation i writes. -/
def dstOf (ops : Array Oper) (i : Nat) : Nat := ((ops[i]?).bind (·.dst)).getD 0
/-- Each operation writes a slot of its own, below n, and waits for elder ones only. -/
def plainOps (n : Nat) (ops : Array Oper) : Bool :=
  (List.range ops.size).all fun i => match ops[i]? with
    | some o => (match o.dst with
      | some d => decide (d < n) && (List.range i).all fun j => dstOf ops j != d
      | none => false) && o.after.all fun e => decide (e.on < i)
    | none => false
/-- Operation i leaves a value of which F i holds, and changes no elder memory. -/
def Step (P : Program) (ops : Array Oper) (Q : Exit → Act → World → Prop) (F : Nat → World → Value → Prop) (i : Nat) (o : Oper) (a : Act) (w : World) : Prop :=
  wpOp P ops Q i (fun a' w' => ∃ v, a' = a.put o.dst v ∧ F i w' v ∧ Below w.heap.size w w') a w
/-- What is known where an operation is carried out. -/
structure At (ops : Array Oper) (F : Nat → World → Value → Prop) (a0 : Act) (w0 : World) (o : Oper) (a : Act) (w : World) : Prop where
  below : Below w0.heap.size w0 w
  same : ∀ t, (ops.toList.any fun o => o.dst == some t) = false → a.tmps.getD t undef = a0.tmps.getD t undef
  dep : ∀ j, (o.after.toList.any fun e => Region.binds .any e && e.on == j) = true → F j w (a.tmps.getD (dstOf ops j) undef)
def Obs (P : Program) (ops : Array Oper) (Q : Exit → Act → World → Prop) (F : Nat → World → Value → Prop) (a0 : Act) (w0 : World) : Nat → List Oper → Prop
  | _, [] => True
  | i, o :: l => (∀ a w, At ops F a0 w0 o a w → Step P ops Q F i o a w) ∧ Obs P ops Q F a0 w0 (i + 1) l
def fillL : Array Value → List Oper → Nat → (Nat → Value) → Array Value
  | ts, [], _, _ => ts
  | ts, o :: l, i, g => fillL (match o.dst with
    | some d => ts.setIfInBounds d (g i)
    | none => ts) l (i + 1) g

theorem obs_at {P : Program} {ops : Array Oper} {Q : Exit → Act → World → Prop} {F : Nat → World → Value → Prop} {a0 : Act} {w0 : World} : ∀ (l : List Oper) (i k : Nat) (o : Oper), Obs P ops Q F a0 w0 i l → l[k]? = some o → ∀ a w, At ops F a0 w0 o a w → Step P ops Q F (i + k) o a w
  | [], _, _, _, _, h => by simp at h
  | x :: l, i, 0, o, hO, h => by
    simp at h
    subst h
    exact hO.1
  | x :: l, i, k + 1, o, hO, h => by
    have := obs_at l (i + 1) k o hO.2 (by simpa using h)
    rwa [Nat.add_right_comm] at this
theorem fillL_size : ∀ (l : List Oper) (ts : Array Value) (i : Nat) (g : Nat → Value), (fillL ts l i g).size = ts.size
  | [], _, _, _ => rfl
  | o :: l, ts, i, g => by
    rw [fillL, fillL_size l]
    cases o.dst <;> simp
theorem fillL_other : ∀ (l : List Oper) (ts : Array Value) (i : Nat) (g : Nat → Value) (t : Nat), (∀ o ∈ l, o.dst ≠ some t) → (fillL ts l i g).getD t undef = ts.getD t undef
  | [], _, _, _, _, _ => rfl
  | o :: l, ts, i, g, t, h => by
    rw [fillL, fillL_other l _ _ _ _ (fun o ho => h o (List.mem_cons_of_mem _ ho))]
    have := h o List.mem_cons_self
    cases hd : o.dst with
    | none => rfl
    | some d =>
      have : d ≠ t := fun e => this (e ▸ hd)
      simp [Array.getElem?_setIfInBounds_ne this]
theorem fillL_at : ∀ (l : List Oper) (ts : Array Value) (i : Nat) (g : Nat → Value) (t k : Nat) (o : Oper), l[k]? = some o → o.dst = some t → t < ts.size → (∀ m, k < m → ∀ o', l[m]? = some o' → o'.dst ≠ some t) →
    (fillL ts l i g).getD t undef = g (i + k)
  | [], _, _, _, _, _, _, h, _, _, _ => by simp at h
  | x :: l, ts, i, g, t, 0, o, h, hd, ht, hl => by
    simp at h
    subst h
    rw [fillL, fillL_other l _ _ _ _ (fun o ho => by
      obtain ⟨m, hm, rfl⟩ := List.mem_iff_getElem.1 ho
      exact hl (m + 1) (by omega) _ (by simp [hm]))]
    rw [hd]
    simp [ht]
  | x :: l, ts, i, g, t, k + 1, o, h, hd, ht, hl => by
    rw [fillL, fillL_at l _ (i + 1) g t k o (by simpa using h) hd (by cases x.dst <;> simpa using ht) (fun m hm o' ho' => hl (m + 1) (by omega) o' (by simpa using ho'))]
    congr 1
    omega

theorem plain_spec {n : Nat} {ops : Array Oper} (h : plainOps n ops = true) {i : Nat} {o : Oper} (hi : ops[i]? = some o) :
    ∃ d, o.dst = some d ∧ d < n ∧ (∀ j, j < i → dstOf ops j ≠ d) ∧ ∀ e ∈ o.after, e.on < i := by
  have hlt : i < ops.size := (Array.getElem?_eq_some_iff.1 hi).1
  have h1 := List.all_eq_true.1 h i (List.mem_range.2 hlt)
  simp only [hi, Bool.and_eq_true] at h1
  obtain ⟨h2, h3⟩ := h1
  cases hd : o.dst with
  | none => simp [hd] at h2
  | some d =>
    simp only [hd, Bool.and_eq_true, decide_eq_true_eq, List.all_eq_true, List.mem_range, bne_iff_ne] at h2
    exact ⟨d, rfl, h2.1, h2.2, fun e he => by simpa using (Array.all_eq_true_iff_forall_mem.1 h3) e he⟩
theorem dst_of {ops : Array Oper} {i : Nat} {o : Oper} {d : Nat} (hi : ops[i]? = some o) (hd : o.dst = some d) : dstOf ops i = d := by simp [dstOf, hi, hd]

def unl (listed : Array Bool) (n : Nat) : Nat := (List.range n).countP fun i => !listed.getD i true
theorem unl_set (listed : Array Bool) (i : Nat) (h : listed.getD i true = false) : ∀ n, unl (listed.setIfInBounds i true) n + (if i < n then 1 else 0) = unl listed n
  | 0 => by simp [unl]
  | n + 1 => by
    have ih := unl_set listed i h n
    simp only [unl, List.range_succ, List.countP_append] at ih ⊢
    by_cases hin : i = n
    · subst hin
      have hlt : i < listed.size := by
        rcases Nat.lt_or_ge i listed.size with h' | h'
        · exact h'
        · simp [Array.getElem?_eq_none h'] at h
      have e : (listed.setIfInBounds i true).getD i true = true := getD_set_true' hlt
      simp only [Nat.lt_irrefl, if_false, Nat.add_zero] at ih
      simp only [List.countP_singleton, e, h, Nat.lt_succ_self, if_true, ih]
      simp
    · have e : (listed.setIfInBounds i true).getD n true = listed.getD n true := Go.getD_set_ne true hin
      simp only [List.countP_singleton, e]
      by_cases hlt : i < n
      · rw [if_pos hlt] at ih
        rw [if_pos (show i < n + 1 by omega)]
        omega
      · rw [if_neg hlt] at ih
        rw [if_neg (show ¬ i < n + 1 by omega)]
        omega
where
  getD_set_true' {listed : Array Bool} {i : Nat} (hlt : i < listed.size) : (listed.setIfInBounds i true).getD i true = true := by simp [hlt]

structure FInv (ops : Array Oper) (F : Nat → World → Value → Prop) (a0 : Act) (w0 : World) (listed : Array Bool) (a : Act) (w : World) : Prop where
  size : a.tmps.size = a0.tmps.size
  defers : a.defers = a0.defers
  below : Below w0.heap.size w0 w
  same : ∀ t, (∀ i, listed.getD i false = true → dstOf ops i ≠ t) → a.tmps.getD t undef = a0.tmps.getD t undef
  facts : ∀ i, listed.getD i false = true → F i w (a.tmps.getD (dstOf ops i) undef)
  ls : listed.size = ops.size

theorem wpAny_facts {P : Program} {ops : Array Oper} {Q : Exit → Act → World → Prop} {F : Nat → World → Value → Prop} {a0 : Act} {w0 : World}
    (hp : plainOps a0.tmps.size ops = true) (hF : ∀ i w w' v, F i w v → Below w.heap.size w w' → F i w' v) (hobs : Obs P ops Q F a0 w0 0 ops.toList)
    (hend : ∀ (g : Nat → Value) w, Below w0.heap.size w0 w → (∀ i, i < ops.size → F i w (g i)) → Q .normal ⟨fillL a0.tmps ops.toList 0 g, a0.defers⟩ w) :
    ∀ (fuel : Nat) (listed : Array Bool) (a : Act) (w : World), unl listed ops.size ≤ fuel → FInv ops F a0 w0 listed a w → wpAny P .any ops Q fuel listed a w := by
  have last : ∀ (listed : Array Bool) (a : Act) (w : World), FInv ops F a0 w0 listed a w → Region.ready .any ops listed = [] → Q .normal a w := by
    intro listed a w hI hr
    have all : ∀ n i, i < n → i < ops.size → listed.getD i false = true := by
      intro n
      induction n with
      | zero => intro i hi; omega
      | succ n ih =>
        intro i hin hi
        by_cases hlt : i < n
        · exact ih i hlt hi
        have hin' : i = n := by omega
        subst hin'
        obtain ⟨o, ho⟩ : ∃ o, ops[i]? = some o := ⟨ops[i], by simp [hi]⟩
        obtain ⟨d, _, _, _, hon⟩ := plain_spec hp ho
        cases hli : listed.getD i true with
        | true =>
          have hl : i < listed.size := by rw [hI.ls]; exact hi
          simp only [Array.getD_eq_getD_getElem?, Array.getElem?_eq_getElem hl, Option.getD_some] at hli ⊢
          exact hli
        | false =>
          exfalso
          have : i ∈ Region.ready .any ops listed := mem_ready.2 ⟨hli, o, ho, fun e he _ => by
            have := hon e he
            exact ih _ this (by omega)⟩
          rw [hr] at this
          cases this
    have ha : a = ⟨fillL a0.tmps ops.toList 0 (fun i => a.tmps.getD (dstOf ops i) undef), a0.defers⟩ := by
      have hd := hI.defers
      have hsz := hI.size
      obtain ⟨ts, ds⟩ := a
      simp only at hd hsz
      subst hd
      congr 1
      apply Array.ext
      · rw [fillL_size]; exact hsz
      intro t h1 h2
      have e1 : ts[t] = ts.getD t undef := by simp [h1]
      have e2 : ∀ (x : Array Value) (h : t < x.size), x[t] = x.getD t undef := fun x h => by simp [h]
      rw [e1, e2 _ h2]
      by_cases hex : ∃ (i : Nat) (o : Oper), ops[i]? = some o ∧ o.dst = some t
      · obtain ⟨i, o, ho, hot⟩ := hex
        rw [fillL_at ops.toList a0.tmps 0 _ t i o (by simpa using ho) hot (by omega) (fun m hm o' ho' hne => by
          obtain ⟨d, hd, _, hj, _⟩ := plain_spec hp (i := m) (o := o') (by simpa using ho')
          rw [hne] at hd
          cases hd
          exact hj i hm (dst_of ho hot))]
        simp only [Nat.zero_add, dst_of ho hot]
      · rw [fillL_other ops.toList _ _ _ _ (fun o ho hd => by
          obtain ⟨m, hm, rfl⟩ := List.mem_iff_getElem.1 ho
          exact hex ⟨m, ops.toList[m], by rw [← Array.getElem?_toList]; simp, hd⟩)]
        refine hI.same t fun i hi hd => ?_
        have hlt : i < ops.size := by
          rw [← hI.ls]
          rcases Nat.lt_or_ge i listed.size with h' | h'
          · exact h'
          · simp [Array.getElem?_eq_none h'] at hi
        obtain ⟨d, hd', _, _, _⟩ := plain_spec hp (i := i) (o := ops[i]) (by simp [hlt])
        rw [dst_of (i := i) (o := ops[i]) (by simp [hlt]) hd'] at hd
        subst hd
        exact hex ⟨i, ops[i], by simp [hlt], hd'⟩
    rw [ha]
    exact hend _ w hI.below fun i hi => hI.facts i (all (i + 1) i (by omega) hi)
  have ready_lt : ∀ {listed i}, i ∈ Region.ready .any ops listed → i < ops.size := by
    intro listed i hi
    obtain ⟨_, o, ho, _⟩ := mem_ready.1 hi
    exact (Array.getElem?_eq_some_iff.1 ho).1
  intro fuel
  induction fuel with
  | zero =>
    intro listed a w hu hI
    have hr : Region.ready .any ops listed = [] := by
      apply List.eq_nil_iff_forall_not_mem.2
      intro i hi
      have h1 := unl_set listed i (mem_ready.1 hi).1 ops.size
      rw [if_pos (ready_lt hi)] at h1
      omega
    exact ⟨hr, last listed a w hI hr⟩
  | succ fuel ih =>
    intro listed a w hu hI
    refine ⟨fun hr => last listed a w hI hr, fun i hi => ?_⟩
    have hlt := ready_lt hi
    obtain ⟨hun, o, ho, hall⟩ := mem_ready.1 hi
    have hunl := unl_set listed i hun ops.size
    rw [if_pos hlt] at hunl
    obtain ⟨d, hd, hdn, hdj, hon⟩ := plain_spec hp ho
    have hstep := obs_at ops.toList 0 i o hobs (by simpa using ho) a w ⟨hI.below, fun t ht => hI.same t fun j hj hjt => by
        have hjl : j < ops.size := by
          rw [← hI.ls]
          rcases Nat.lt_or_ge j listed.size with h' | h'
          · exact h'
          · simp [Array.getElem?_eq_none h'] at hj
        obtain ⟨d', hd', _, _, _⟩ := plain_spec hp (i := j) (o := ops[j]) (by simp [hjl])
        rw [dst_of (i := j) (o := ops[j]) (by simp [hjl]) hd'] at hjt
        subst hjt
        have := List.any_eq_false.1 ht ops[j] (by simp)
        exact this (by simp [hd']),
      fun j hj => by
        obtain ⟨e, he, hb⟩ := List.any_eq_true.1 hj
        simp only [Bool.and_eq_true, beq_iff_eq] at hb
        have := hall e (by simpa using he) hb.1
        rw [hb.2] at this
        exact hI.facts j this⟩
    rw [Nat.zero_add] at hstep
    refine wpOp_mono (fun a' w' hK => ?_) hstep
    obtain ⟨v, rfl, hv, hB⟩ := hK
    have hneu : ∀ j, listed.getD j false = true → dstOf ops j ≠ d := fun j hj hjd => by
      have hjl : j < ops.size := by
        rw [← hI.ls]
        rcases Nat.lt_or_ge j listed.size with h' | h'
        · exact h'
        · simp [Array.getElem?_eq_none h'] at hj
      have hji : j ≠ i := fun e => by
        subst e
        have hl : j < listed.size := by rw [hI.ls]; exact hlt
        simp only [Array.getD_eq_getD_getElem?, Array.getElem?_eq_getElem hl, Option.getD_some] at hj hun
        rw [hj] at hun
        cases hun
      rcases Nat.lt_or_gt_of_ne hji with h1 | h1
      · exact hdj j h1 hjd
      · obtain ⟨d', hd', _, hj', _⟩ := plain_spec hp (i := j) (o := ops[j]) (by simp [hjl])
        have := hj' i h1
        rw [dst_of ho hd] at this
        rw [dst_of (i := j) (o := ops[j]) (by simp [hjl]) hd'] at hjd
        exact this hjd.symm
    have hput : ∀ t, t ≠ d → (a.put o.dst v).tmps.getD t undef = a.tmps.getD t undef := fun t ht => by
      rw [hd]
      simp [Act.put, Array.getElem?_setIfInBounds_ne (Ne.symm ht)]
    have hgi : ∀ j, (listed.setIfInBounds i true).getD j false = true → j ≠ i → listed.getD j false = true := fun j hj hne => by
      rwa [Go.getD_set_ne false (Ne.symm hne)] at hj
    refine ih _ _ _ (by omega) ⟨?_, ?_, below_step hI.below hB, ?_, ?_, ?_⟩
    · rw [hd]
      simpa [Act.put] using hI.size
    · rw [hd]
      exact hI.defers
    · intro t ht
      have htd : t ≠ d := fun e => ht i (by
        have hl : i < listed.size := by rw [hI.ls]; exact hlt
        simp [hl]) (by rw [dst_of ho hd, e])
      rw [hput t htd]
      refine hI.same t fun j hj => ?_
      by_cases hji : j = i
      · subst hji
        rw [dst_of ho hd]
        exact Ne.symm htd
      · exact ht j (by rwa [Go.getD_set_ne false (Ne.symm hji)])
    · intro j hj
      by_cases hji : j = i
      · subst hji
        rw [dst_of ho hd, hd]
        have : d < a.tmps.size := by rw [hI.size]; exact hdn
        simpa [Act.put, this] using hv
      · have h1 := hgi j hj hji
        rw [hput _ (hneu j h1)]
        exact hF _ _ _ _ (hI.facts j h1) hB
    · simpa using hI.ls

theorem wp_region_facts {P : Program} {id : Nat} {ops : Array Oper} {Q : Exit → Act → World → Prop} {a0 : Act} {w0 : World} (F : Nat → World → Value → Prop)
    (hm : P.follows .mixedOrders = true) (hp : plainOps a0.tmps.size ops = true) (hF : ∀ i w w' v, F i w v → Below w.heap.size w w' → F i w' v)
    (hobs : Obs P ops Q F a0 w0.drew 0 ops.toList)
    (hend : ∀ (g : Nat → Value) w, Below w0.drew.heap.size w0.drew w → (∀ i, i < ops.size → F i w (g i)) → Q .normal ⟨fillL a0.tmps ops.toList 0 g, a0.defers⟩ w) :
    (Code.region id ops true).wp P Q a0 w0 := by
  have hno : ∀ i, (Array.replicate ops.size false).getD i false = true → False := fun i h => by
    rcases Nat.lt_or_ge i ops.size with h' | h'
    · simp [h'] at h
    · simp [h'] at h
  refine wp_region_any hm (wpAny_facts hp hF hobs hend ops.size _ a0 _ ?_ ⟨rfl, rfl, Below.refl _ _, fun _ _ => rfl, fun i h => (hno i h).elim, by simp⟩)
  have := List.countP_le_length (p := fun i => !(Array.replicate ops.size false).getD i true) (l := List.range ops.size)
  simpa [unl] using this

theorem step_val {P : Program} {ops : Array Oper} {Q : Exit → Act → World → Prop} {F : Nat → World → Value → Prop} {i : Nat} {o : Oper} {a : Act} {w : World} {v : Value} (hi : ops[i]? = some o)
    (hg : Region.wanted o (yielded ops a.tmps) = true) (he : (execOp a.eval o).run P w = .ok (.value v) w) (hv : F i w v) : Step P ops Q F i o a w := by
  unfold Step wpOp
  simp only [hi, hg, if_true]
  left
  unfold Oper.wp
  rw [he]
  exact ⟨v, rfl, hv, Below.refl _ _⟩
theorem step_skip {P : Program} {ops : Array Oper} {Q : Exit → Act → World → Prop} {F : Nat → World → Value → Prop} {i : Nat} {o : Oper} {a : Act} {w : World} (hi : ops[i]? = some o)
    (hg : Region.wanted o (yielded ops a.tmps) = false) (hv : F i w undef) : Step P ops Q F i o a w := by
  unfold Step wpOp
  simp only [hi, hg, Bool.false_eq_true, if_false]
  exact ⟨undef, rfl, hv, Below.refl _ _⟩
theorem step_calls {P : Program} {ops : Array Oper} {Q : Exit → Act → World → Prop} {F : Nat → World → Value → Prop} {i : Nat} {o : Oper} {a : Act} {w : World} {f : FuncId} {args : Array Value} (hi : ops[i]? = some o)
    (hg : Region.wanted o (yielded ops a.tmps) = true) (he : (execOp a.eval o).run P w = .ok (.enter f args) w)
    (hc : Calls P f args w fun e w' => ∃ v, e = .returned v ∧ F i w' v ∧ Below w.heap.size w w') : Step P ops Q F i o a w := by
  unfold Step wpOp
  simp only [hi, hg, if_true]
  left
  unfold Oper.wp
  rw [he]
  refine hc.mono fun e w' h => ?_
  obtain ⟨v, rfl, hv, hB⟩ := h
  exact ⟨v, rfl, hv, hB⟩
/-- The guard of an operation, by the fact on the operation that it looks at. -/
theorem wanted_of {ops : Array Oper} {o : Oper} {a : Act} {j : Nat} {want b : Bool} (hgd : o.guard = some (j, want)) (hd : ((ops[j]?).bind (·.dst)).isSome = true)
    (h : a.tmps.getD (dstOf ops j) undef = .bool b) : Region.wanted o (yielded ops a.tmps) = (b == want) := by
  obtain ⟨d, hd⟩ := Option.isSome_iff_exists.1 hd
  have hdo : dstOf ops j = d := by rw [dstOf, hd]; rfl
  rw [hdo] at h
  have hlt : d < a.tmps.size := by
    rcases Nat.lt_or_ge d a.tmps.size with h' | h'
    · exact h'
    · simp [Array.getElem?_eq_none h', undef] at h
  have h2 : a.tmps[d]? = some (.bool b) := by
    simp only [Array.getD_eq_getD_getElem?, Array.getElem?_eq_getElem hlt, Option.getD_some] at h ⊢
    rw [h]
  have hy : yielded ops a.tmps j = some b := by
    unfold yielded
    rw [hd]
    simp only [Option.bind_some, h2]
  unfold Region.wanted
  rw [hgd]
  simp only [hy]
  cases b <;> cases want <;> rfl
end Go.Proofs.Ytkidgeeedigkhaa
