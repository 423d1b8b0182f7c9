
/- Rationals as steps of a plan: a rational is a value of four cells. -/
import Derived.Test.YtdmahjbjlppeaaaRegS
import Derived.Test.YtdmahjbjlppeaaaA6
namespace Go.Proofs.Ytdmahjbjlppeaaa
open Go.RowKit

/-- Two numbers side by side. -/
def Known.pair (f g : Known) : Known := ⟨fun w x => ∃ b s b2 s2, x = .agg #[b, s, b2, s2] ∧ f.p w (.agg #[b, s]) ∧ g.p w (.agg #[b2, s2]), fun _ _ _ ⟨b, s, b2, s2, e, h1, h2⟩ hM => ⟨b, s, b2, s2, e, f.keep _ _ _ h1 hM, g.keep _ _ _ h2 hM⟩⟩
theorem okr (b : Bool) (A : Option Addr) (n c : Nat) (b2 : Bool) (A2 : Option Addr) (n2 c2 : Nat) : okCells #[.bool b, .slice A n c, .bool b2, .slice A2 n2 c2] := by
  intro j x
  match j with
  | 0 => simp
  | 1 => simp
  | 2 => simp
  | 3 => simp
  | j + 4 => simp
theorem okr8 (b : Bool) (A : Option Addr) (n c : Nat) (b2 : Bool) (A2 : Option Addr) (n2 c2 : Nat) (b3 : Bool) (A3 : Option Addr) (n3 c3 : Nat) (b4 : Bool) (A4 : Option Addr) (n4 c4 : Nat) : okCells #[.bool b, .slice A n c, .bool b2, .slice A2 n2 c2, .bool b3, .slice A3 n3 c3, .bool b4, .slice A4 n4 c4] := by
  intro j x
  match j with
  | 0 => simp
  | 1 => simp
  | 2 => simp
  | 3 => simp
  | 4 => simp
  | 5 => simp
  | 6 => simp
  | 7 => simp
  | j + 8 => simp
theorem Cz.mag {w : World} {b s : Value} {z : Int} (h : Cz w (.agg #[b, s]) z) : Cn w s z.natAbs := by
  obtain ⟨A, c, e, hS⟩ := h
  injection e with e
  simp at e
  obtain ⟨_, rfl⟩ := e
  exact ⟨⟨A, c, rfl, hS⟩⟩
section
variable {d : Option Tmp} {ty : TypeId} {pos : String} {after : Array Edge} {guard : Option (Nat × Bool)} {a : Act} {w : World}
theorem x_alloc_r : (execOp a.eval ⟨d, .alloc 29, ty, pos, after, guard⟩).run Try.prog w = .ok (.value (.pointer (some ⟨w.heap.size, 0, none⟩))) (w.alloc (.cells #[.bool false, .slice none 0 0, .bool false, .slice none 0 0] 29)) := by
  simp only [execOp]
  go_simp
theorem x_box_r {x : Operand} {b s b2 s2 : Value} (hx : a.eval x = .agg #[b, s, b2, s2]) :
    (execOp a.eval ⟨d, .box 29 x, ty, pos, after, guard⟩).run Try.prog w = .ok (.value (.pointer (some ⟨w.heap.size, 0, none⟩))) (w.alloc (.cells #[b, s, b2, s2] 29)) := by
  simp only [execOp, hx]
  go_simp
theorem x_build_r0 : (execOp a.eval ⟨d, .build 29 #[], ty, pos, after, guard⟩).run Try.prog w = .ok (.value (.agg #[.bool false, .slice none 0 0, .bool false, .slice none 0 0])) w := by
  simp only [execOp]
  go_simp
theorem x_build_r2 {x y : Operand} {b s b2 s2 : Value} (hx : a.eval x = .agg #[b, s]) (hy : a.eval y = .agg #[b2, s2]) :
    (execOp a.eval ⟨d, .build 29 #[(0, x), (1, y)], ty, pos, after, guard⟩).run Try.prog w = .ok (.value (.agg #[b, s, b2, s2])) w := by
  simp only [execOp, List.map_toArray, List.map_cons, List.map_nil, hx, hy]
  go_simp
theorem x_load_r {x : Operand} {g : Nat} {t : TypeId} {b s b2 s2 : Value} (hx : a.eval x = .pointer (some ⟨g, 0, none⟩)) (hB : Bx w g t #[b, s, b2, s2]) :
    (execOp a.eval ⟨d, .load 29 x, ty, pos, after, guard⟩).run Try.prog w = .ok (.value (.agg #[b, s, b2, s2])) w := by
  have h0 : w.cell? ⟨g, 0, none⟩ = some b := cell_of_row w g 0 _ t (0, 0) hB
  have h1 : w.cell? ⟨g, 1, none⟩ = some s := cell_of_row w g 1 _ t (0, 0) hB
  have h2 : w.cell? ⟨g, 2, none⟩ = some b2 := cell_of_row w g 2 _ t (0, 0) hB
  have h3 : w.cell? ⟨g, 3, none⟩ = some s2 := cell_of_row w g 3 _ t (0, 0) hB
  simp only [execOp, hx]
  go_simp
theorem x_fld_r0 {x : Operand} {g : Nat} (hx : a.eval x = .pointer (some ⟨g, 0, none⟩)) :
    (execOp a.eval ⟨d, .fieldAddr 29 x 0, ty, pos, after, guard⟩).run Try.prog w = .ok (.value (.pointer (some ⟨g, 0, none⟩))) w := by
  simp only [execOp, hx]
  go_simp
theorem x_fld_r1 {x : Operand} {g : Nat} (hx : a.eval x = .pointer (some ⟨g, 0, none⟩)) :
    (execOp a.eval ⟨d, .fieldAddr 29 x 1, ty, pos, after, guard⟩).run Try.prog w = .ok (.value (.pointer (some ⟨g, 2, none⟩))) w := by
  simp only [execOp, hx]
  go_simp
theorem x_load_r0 {x : Operand} {g : Nat} {t : TypeId} {b s b2 s2 : Value} (hx : a.eval x = .pointer (some ⟨g, 0, none⟩)) (hB : Bx w g t #[b, s, b2, s2]) :
    (execOp a.eval ⟨d, .load 24 x, ty, pos, after, guard⟩).run Try.prog w = .ok (.value (.agg #[b, s])) w := by
  have h0 : w.cell? ⟨g, 0, none⟩ = some b := cell_of_row w g 0 _ t (0, 0) hB
  have h1 : w.cell? ⟨g, 1, none⟩ = some s := cell_of_row w g 1 _ t (0, 0) hB
  simp only [execOp, hx]
  go_simp
theorem x_load_r1 {x : Operand} {g : Nat} {t : TypeId} {b s b2 s2 : Value} (hx : a.eval x = .pointer (some ⟨g, 2, none⟩)) (hB : Bx w g t #[b, s, b2, s2]) :
    (execOp a.eval ⟨d, .load 24 x, ty, pos, after, guard⟩).run Try.prog w = .ok (.value (.agg #[b2, s2])) w := by
  have h2 : w.cell? ⟨g, 2, none⟩ = some b2 := cell_of_row w g 2 _ t (0, 0) hB
  have h3 : w.cell? ⟨g, 3, none⟩ = some s2 := cell_of_row w g 3 _ t (0, 0) hB
  simp only [execOp, hx]
  go_simp
/-- The world in which the block g holds these four cells. -/
def set4 (w : World) (g : Nat) (u v u2 v2 : Value) : World := (((w.setCell ⟨g, 0, none⟩ u).setCell ⟨g, 1, none⟩ v).setCell ⟨g, 2, none⟩ u2).setCell ⟨g, 3, none⟩ v2
theorem put_of4 {g : Nat} {t : TypeId} {b s b2 s2 : Value} (hB : Bx w g t #[b, s, b2, s2]) (u v u2 v2 : Value) : PutOf w g t #[u, v, u2, v2] (set4 w g u v u2 v2) := by
  refine ⟨?_, fun k hk => ?_, by simp [set4, World.setCell], fun B hb => ((((Below.refl B w).setCell (p := ⟨g, 0, none⟩) hb u).setCell (p := ⟨g, 1, none⟩) hb v).setCell (p := ⟨g, 2, none⟩) hb u2).setCell (p := ⟨g, 3, none⟩) hb v2⟩
  · unfold Bx set4 at *
    simp [World.setCell, Array.getElem?_modify, hB]
  · unfold set4
    rw [Below.heap_setCell _ ⟨g, 3, none⟩ v2 k hk, Below.heap_setCell _ ⟨g, 2, none⟩ u2 k hk, Below.heap_setCell _ ⟨g, 1, none⟩ v k hk, Below.heap_setCell _ ⟨g, 0, none⟩ u k hk]
theorem x_store_r {x y : Operand} {g : Nat} {t : TypeId} {u u2 : Bool} {A A2 : Option Addr} {n c n2 c2 : Nat} {b s b2 s2 : Value} (hx : a.eval x = .pointer (some ⟨g, 0, none⟩)) (hy : a.eval y = .agg #[.bool u, .slice A n c, .bool u2, .slice A2 n2 c2]) (hB : Bx w g t #[b, s, b2, s2]) :
    (execOp a.eval ⟨d, .store 29 x y, ty, pos, after, guard⟩).run Try.prog w = .ok .skip (set4 w g (.bool u) (.slice A n c) (.bool u2) (.slice A2 n2 c2)) := by
  have h0 : w.cell? ⟨g, 0, none⟩ = some b := cell_of_row w g 0 _ t (0, 0) hB
  have hf : ∀ i, w.frozen? ⟨g, i, none⟩ = false := fun i => by
    unfold Bx at hB
    simp [World.frozen?, hB]
  have step : ∀ (v : World) (c0 c1 c2 c3 : Value), Bx v g t #[c0, c1, c2, c3] → v.cell? ⟨g, 1, none⟩ = some c1 ∧ v.cell? ⟨g, 2, none⟩ = some c2 ∧ v.cell? ⟨g, 3, none⟩ = some c3 ∧ ∀ i, v.frozen? ⟨g, i, none⟩ = false := fun v c0 c1 c2 c3 h =>
    ⟨cell_of_row v g 1 _ t (0, 0) h, cell_of_row v g 2 _ t (0, 0) h, cell_of_row v g 3 _ t (0, 0) h, fun i => by unfold Bx at h; simp [World.frozen?, h]⟩
  have hB1 : Bx (w.setCell ⟨g, 0, none⟩ (.bool u)) g t #[.bool u, s, b2, s2] := by
    unfold Bx at hB ⊢
    simp [World.setCell, Array.getElem?_modify, hB]
  have hB2 : Bx ((w.setCell ⟨g, 0, none⟩ (.bool u)).setCell ⟨g, 1, none⟩ (.slice A n c)) g t #[.bool u, .slice A n c, b2, s2] := by
    unfold Bx at hB1 ⊢
    rw [World.setCell, Array.getElem?_modify, if_pos rfl, hB1]
    rfl
  have hB3 : Bx (((w.setCell ⟨g, 0, none⟩ (.bool u)).setCell ⟨g, 1, none⟩ (.slice A n c)).setCell ⟨g, 2, none⟩ (.bool u2)) g t #[.bool u, .slice A n c, .bool u2, s2] := by
    unfold Bx at hB2 ⊢
    rw [World.setCell, Array.getElem?_modify, if_pos rfl, hB2]
    rfl
  obtain ⟨k1, _, _, kf1⟩ := step _ _ _ _ _ hB1
  obtain ⟨_, k2, _, kf2⟩ := step _ _ _ _ _ hB2
  obtain ⟨_, _, k3, kf3⟩ := step _ _ _ _ _ hB3
  clear step hB1 hB2 hB3
  simp only [execOp, hx, hy]
  go_simp
  rfl
end
theorem Bx.ok4 {w : World} {g : Nat} {t : TypeId} {b : Bool} {A : Option Addr} {n c : Nat} {b2 : Bool} {A2 : Option Addr} {n2 c2 : Nat} (h : Bx w g t #[.bool b, .slice A n c, .bool b2, .slice A2 n2 c2]) : OkB w g 4 := ⟨_, t, h, okr b A n c b2 A2 n2 c2, rfl⟩
def Shape4 (v : Value) : Prop := ∃ b A n c b2 A2 n2 c2, v = .agg #[.bool b, .slice A n c, .bool b2, .slice A2 n2 c2]
theorem does_put_r {ops : Array Oper} {Q : Exit → Act → World → Prop} {base i : Nat} {a : Act} {w : World} {p q : Tmp} {ty : TypeId} {pos : String} {after : Array Edge} {guard : Option (Nat × Bool)} {g : Nat}
    (hi : ops[i]? = some ⟨none, .store 29 (.tmp p) (.tmp q), ty, pos, after, guard⟩) (hg : Region.wanted ⟨none, .store 29 (.tmp p) (.tmp q), ty, pos, after, guard⟩ (yielded ops a.tmps) = true)
    (hp : Act.vs a p = .pointer (some ⟨g, 0, none⟩)) (hq : Shape4 (Act.vs a q)) (hok : OkB w g 4) (hb : base ≤ g) :
    Does Try.prog ops Q base (.put p q) i ⟨none, .store 29 (.tmp p) (.tmp q), ty, pos, after, guard⟩ a w := by
  have hok2 := hok
  obtain ⟨cs, t, hB, _, hsz⟩ := hok
  obtain ⟨x0, x1, x2, x3, rfl⟩ : ∃ x0 x1 x2 x3, cs = #[x0, x1, x2, x3] := by
    obtain ⟨l⟩ := cs
    match l, hsz with
    | [x0, x1, x2, x3], _ => exact ⟨x0, x1, x2, x3, rfl⟩
  obtain ⟨b, A, n, c, b2, A2, n2, c2, hq⟩ := hq
  unfold Does wpOp
  simp only [hi, hg, if_true]
  left
  unfold Oper.wp
  have e1 : a.eval (.tmp p) = .pointer (some ⟨g, 0, none⟩) := hp
  have e2 : a.eval (.tmp q) = .agg #[.bool b, .slice A n c, .bool b2, .slice A2 n2 c2] := hq
  rw [x_store_r e1 e2 hB]
  exact ⟨g, t, _, rfl, hp, hq, put_of4 hB _ _ _ _, hok2, okr b A n c b2 A2 n2 c2, hb⟩
/-- A slice of new memory that holds just these cells. -/
theorem does_row {P : Program} {ops : Array Oper} {Q : Exit → Act → World → Prop} {base i : Nat} {o : Oper} {a : Act} {w : World} {n k : Nat} {t : TypeId} {cs : Array Value} (hi : ops[i]? = some o) (hg : Region.wanted o (yielded ops a.tmps) = true)
    (he : (execOp a.eval o).run P w = .ok (.value (.slice (some ⟨w.heap.size, 0, none⟩) k k)) (w.alloc (.cells cs t))) (hk : okCells cs) (hn : cs.size = n) : Does P ops Q base (.new n (some (t, cs)) (some k)) i o a w := by
  unfold Does wpOp
  simp only [hi, hg, if_true]
  left
  unfold Oper.wp
  rw [he]
  exact ⟨t, cs, rfl, rfl, hk, hn, .inr rfl⟩
section
variable {d : Option Tmp} {ty : TypeId} {pos : String} {after : Array Edge} {guard : Option (Nat × Bool)} {a : Act} {w : World}
theorem x_field_r {x : Operand} {b s b2 s2 : Value} (hx : a.eval x = .agg #[b, s, b2, s2]) : (execOp a.eval ⟨d, .field 29 x 0, ty, pos, after, guard⟩).run Try.prog w = .ok (.value (.agg #[b, s])) w := by
  simp only [execOp, hx]
  go_simp
  simp [Instr.field, go_sem]
  rfl
theorem x_add_str {x y : Operand} {m n : ByteArray} (hx : a.eval x = .string m) (hy : a.eval y = .string n) (h : m.size + n.size ≤ 1000000000) : (execOp a.eval ⟨d, .binOp .add 9 x y 9, ty, pos, after, guard⟩).run Try.prog w = .ok (.value (.string (m ++ n))) w := by
  simp only [execOp, hx, hy]
  go_simp
  omega
theorem x_len_r {t : Tmp} {A : Option Addr} {n c : Nat} (hx : Act.vs a t = .slice A n c) : (execOp a.eval ⟨d, .call { callee := .builtin .len, args := #[.tmp t], argTypes := #[76] }, ty, pos, after, guard⟩).run Try.prog w = .ok (.value (.int .i64 n)) w := by
  have e : a.tmps[t]?.getD undef = .slice A n c := by rw [← hx]; simp [Act.vs]
  simp [go_sem, e]
theorem x_idx_r {x y : Operand} {g n c : Nat} {k : Nat} (hx : a.eval x = .slice (some ⟨g, 0, none⟩) n c) (hy : a.eval y = .int .i64 (k : Int)) (hk : k < n) :
    (execOp a.eval ⟨d, .indexAddr 76 x y, ty, pos, after, guard⟩).run Try.prog w = .ok (.value (.pointer (some ⟨g, 4 * k, none⟩))) w := by
  have h1 : (k : Int) < n := by omega
  simp only [execOp, hx, hy]
  go_simp
theorem x_load_e {x : Operand} {g off : Nat} {t : TypeId} {cs : Array Value} {b s b2 s2 : Value} (hx : a.eval x = .pointer (some ⟨g, off, none⟩)) (hB : Bx w g t cs) (e0 : cs[off]? = some b) (e1 : cs[off + 1]? = some s) (e2 : cs[off + 2]? = some b2) (e3 : cs[off + 3]? = some s2) :
    (execOp a.eval ⟨d, .load 29 x, ty, pos, after, guard⟩).run Try.prog w = .ok (.value (.agg #[b, s, b2, s2])) w := by
  have h0 : w.cell? ⟨g, off, none⟩ = some b := (cell_of_row w g off _ t (0, 0) hB).trans e0
  have h1 : w.cell? ⟨g, off + 1, none⟩ = some s := (cell_of_row w g (off + 1) _ t (0, 0) hB).trans e1
  have h2 : w.cell? ⟨g, off + 2, none⟩ = some b2 := (cell_of_row w g (off + 2) _ t (0, 0) hB).trans e2
  have h3 : w.cell? ⟨g, off + 3, none⟩ = some s2 := (cell_of_row w g (off + 3) _ t (0, 0) hB).trans e3
  simp only [execOp, hx]
  go_simp
theorem x_row1 {x : Operand} {b s b2 s2 : Value} (hx : a.eval x = .agg #[b, s, b2, s2]) :
    (execOp a.eval ⟨d, .buildSlice 76 1 #[(0, x)], ty, pos, after, guard⟩).run Try.prog w = .ok (.value (.slice (some ⟨w.heap.size, 0, none⟩) 1 1)) (w.alloc (.cells #[b, s, b2, s2] 29)) := by
  simp only [execOp, List.map_toArray, List.map_cons, List.map_nil, hx]
  go_simp
theorem x_row2 {x y : Operand} {b s b2 s2 u v u2 v2 : Value} (hx : a.eval x = .agg #[b, s, b2, s2]) (hy : a.eval y = .agg #[u, v, u2, v2]) :
    (execOp a.eval ⟨d, .buildSlice 76 2 #[(0, x), (1, y)], ty, pos, after, guard⟩).run Try.prog w = .ok (.value (.slice (some ⟨w.heap.size, 0, none⟩) 2 2)) (w.alloc (.cells #[b, s, b2, s2, u, v, u2, v2] 29)) := by
  simp only [execOp, List.map_toArray, List.map_cons, List.map_nil, hx, hy]
  go_simp
theorem x_func2 {f : FuncId} {x y : Operand} : (execOp a.eval ⟨d, .makeFunc (.func f) #[] #[x, y], ty, pos, after, guard⟩).run Try.prog w = .ok (.value (.func (.func f) #[] #[a.eval x, a.eval y])) w := by
  simp only [execOp, List.map_toArray, List.map_cons, List.map_nil]
  rfl
theorem x_callv {f : FuncId} {x : Operand} {cap : Array Value} {T : Array TypeId} (hc : ∀ args w, (callFunc f args).run Try.prog w = .ok (.enter f args) w) (hx : a.eval x = .func (.func f) #[] cap) :
    (execOp a.eval ⟨d, .call { callee := .value x, args := #[], argTypes := T }, ty, pos, after, guard⟩).run Try.prog w = .ok (.enter f cap) w := by
  unfold execOp
  simp only [resolve, hx, Deferred.ofValue, invoke, List.map_toArray, List.map_nil]
  simp
  exact hc _ _
end
abbrev Rz (N : Nat) (w : World) (v : Value) (p q : Int) : Prop := (Known.pair (.az N p) (.az N q)).p w v
theorem Rz.parts {N : Nat} {w : World} {v : Value} {p q : Int} (h : Rz N w v p q) : ∃ na A n c nb B m d, v = .agg #[.bool na, .slice A n c, .bool nb, .slice B m d] ∧ Az N w (.agg #[.bool na, .slice A n c]) p ∧ Az N w (.agg #[.bool nb, .slice B m d]) q := by
  obtain ⟨b, s, b2, s2, rfl, h1, h2⟩ := h
  obtain ⟨na, A, n, c, e1⟩ := Az.shape h1
  obtain ⟨nb, B, m, d, e2⟩ := Az.shape h2
  injection e1 with e1
  injection e2 with e2
  simp at e1 e2
  obtain ⟨rfl, rfl⟩ := e1
  obtain ⟨rfl, rfl⟩ := e2
  exact ⟨na, A, n, c, nb, B, m, d, rfl, h1, h2⟩
theorem pair_fst {f g : Known} {w : World} {b s b2 s2 : Value} (h : (Known.pair f g).p w (.agg #[b, s, b2, s2])) : f.p w (.agg #[b, s]) := by
  obtain ⟨_, _, _, _, e, h1, _⟩ := h
  injection e with e
  simp at e
  obtain ⟨rfl, rfl, _⟩ := e
  exact h1
theorem pair_snd {f g : Known} {w : World} {b s b2 s2 : Value} (h : (Known.pair f g).p w (.agg #[b, s, b2, s2])) : g.p w (.agg #[b2, s2]) := by
  obtain ⟨_, _, _, _, e, _, h2⟩ := h
  injection e with e
  simp at e
  obtain ⟨_, _, rfl, rfl⟩ := e
  exact h2
theorem pair_mk {f g : Known} {w : World} {b s b2 s2 : Value} (h1 : f.p w (.agg #[b, s])) (h2 : g.p w (.agg #[b2, s2])) : (Known.pair f g).p w (.agg #[b, s, b2, s2]) := ⟨_, _, _, _, rfl, h1, h2⟩
theorem pair_at {f g : Known} {w : World} {x y : Value} (h : (Known.pair f g).p w x) (e : y = x) : (Known.pair f g).p w y := e ▸ h
theorem pair_mono {f g : Known} {w w' : World} {x : Value} (h : (Known.pair f g).p w x) (hM : Mono w w') : (Known.pair f g).p w' x := (Known.pair f g).keep _ _ _ h hM
def Num2 (f : Known) : Prop := ∀ w x, f.p w x → ∃ b A n c, x = .agg #[.bool b, .slice A n c]
theorem num_az (N : Nat) (z : Int) : Num2 (.az N z) := fun _ _ h => Az.shape h
theorem num_cz (z : Int) : Num2 (.cz z) := fun _ _ h => Cz.shape h
theorem pair_shape {f g : Known} (hf : Num2 f) (hg : Num2 g) {w : World} {x : Value} (h : (Known.pair f g).p w x) : Shape4 x := by
  obtain ⟨b, s, b2, s2, rfl, h1, h2⟩ := h
  obtain ⟨_, _, _, _, e1⟩ := hf _ _ h1
  obtain ⟨_, _, _, _, e2⟩ := hg _ _ h2
  injection e1 with e1
  injection e2 with e2
  simp at e1 e2
  obtain ⟨rfl, rfl⟩ := e1
  obtain ⟨rfl, rfl⟩ := e2
  exact ⟨_, _, _, _, _, _, _, _, rfl⟩
theorem rat_zero (w : World) : (Known.pair (.cz 0) (.cz 0)).p w (.agg #[.bool false, .slice none 0 0, .bool false, .slice none 0 0]) := ⟨_, _, _, _, rfl, cz_zero w, cz_zero w⟩
theorem put_info4 {X Y : Value} {w : World} {q : Nat} (h : ∃ g t cs, X = .pointer (some ⟨g, 0, none⟩) ∧ Y = .agg cs ∧ Bx w g t cs) (hp : X = .pointer (some ⟨q, 0, none⟩)) (hs : Shape4 Y) :
    ∃ t b A n c b2 A2 n2 c2, Y = .agg #[.bool b, .slice A n c, .bool b2, .slice A2 n2 c2] ∧ Bx w q t #[.bool b, .slice A n c, .bool b2, .slice A2 n2 c2] := by
  obtain ⟨g, t, cs, h1, h2, h3⟩ := h
  obtain ⟨b, A, n, c, b2, A2, n2, c2, h4⟩ := hs
  have := ptr_inj (h1.symm.trans hp)
  subst this
  rw [h2] at h4
  injection h4 with h4
  subst h4
  exact ⟨t, b, A, n, c, b2, A2, n2, c2, h2, h3⟩
theorem does_build_r2 {ops : Array Oper} {Q : Exit → Act → World → Prop} {base i : Nat} {a : Act} {w : World} {f g : Known} {t u : Tmp} {d : Option Tmp} {ty : TypeId} {pos : String} {after : Array Edge} {guard : Option (Nat × Bool)}
    (hi : ops[i]? = some ⟨d, .build 29 #[(0, .tmp t), (1, .tmp u)], ty, pos, after, guard⟩) (hg : Region.wanted ⟨d, .build 29 #[(0, .tmp t), (1, .tmp u)], ty, pos, after, guard⟩ (yielded ops a.tmps) = true)
    (hf : Num2 f) (hk : Num2 g) (h1 : f.p w (Act.vs a t)) (h2 : g.p w (Act.vs a u)) :
    Does Try.prog ops Q base (.val (.pair f g)) i ⟨d, .build 29 #[(0, .tmp t), (1, .tmp u)], ty, pos, after, guard⟩ a w := by
  obtain ⟨b, A, n, c, e1⟩ := hf _ _ h1
  obtain ⟨b2, A2, n2, c2, e2⟩ := hk _ _ h2
  rw [e1] at h1
  rw [e2] at h2
  have k1 : a.eval (.tmp t) = .agg #[.bool b, .slice A n c] := e1
  have k2 : a.eval (.tmp u) = .agg #[.bool b2, .slice A2 n2 c2] := e2
  exact does_val hi hg (x_build_r2 k1 k2) (pair_mk h1 h2)
theorem func2_lit {f : FuncId} {x y p q : Value} (h1 : x = p) (h2 : y = q) : Value.func (.func f) #[] #[x, y] = .func (.func f) #[] #[p, q] := by rw [h1, h2]
section
variable {fn : Func} {tmps : Array Value} {w : World}
theorem ret_r {t : Tmp} {g : Nat} {ty : TypeId} {b s b2 s2 : Value} (h : fn.results = #[.cell t 29]) (hp : tmps.getD t undef = .pointer (some ⟨g, 0, none⟩)) (hB : Bx w g ty #[b, s, b2, s2]) :
    (results fn tmps).run Try.prog w = .ok (.agg #[b, s, b2, s2]) w := by
  have h0 : w.cell? ⟨g, 0, none⟩ = some b := cell_of_row w g 0 _ ty (0, 0) hB
  have h1 : w.cell? ⟨g, 1, none⟩ = some s := cell_of_row w g 1 _ ty (0, 0) hB
  have h2 : w.cell? ⟨g, 2, none⟩ = some b2 := cell_of_row w g 2 _ ty (0, 0) hB
  have h3 : w.cell? ⟨g, 3, none⟩ = some s2 := cell_of_row w g 3 _ ty (0, 0) hB
  have hp2 : tmps[t]?.getD undef = .pointer (some ⟨g, 0, none⟩) := by rw [← hp]; simp
  simp [results, h, hp2, go_sem, h0, h1, h2, h3]
theorem ret_rt {t u : Tmp} {g : Nat} {ty : TypeId} {b s b2 s2 : Value} (h : fn.results = #[.cell t 29, .tmp u]) (hp : tmps.getD t undef = .pointer (some ⟨g, 0, none⟩)) (hB : Bx w g ty #[b, s, b2, s2]) :
    (results fn tmps).run Try.prog w = .ok (.tuple #[.agg #[b, s, b2, s2], tmps.getD u undef]) w := by
  have h0 : w.cell? ⟨g, 0, none⟩ = some b := cell_of_row w g 0 _ ty (0, 0) hB
  have h1 : w.cell? ⟨g, 1, none⟩ = some s := cell_of_row w g 1 _ ty (0, 0) hB
  have h2 : w.cell? ⟨g, 2, none⟩ = some b2 := cell_of_row w g 2 _ ty (0, 0) hB
  have h3 : w.cell? ⟨g, 3, none⟩ = some s2 := cell_of_row w g 3 _ ty (0, 0) hB
  have hp2 : tmps[t]?.getD undef = .pointer (some ⟨g, 0, none⟩) := by rw [← hp]; simp
  simp [results, h, hp2, go_sem, h0, h1, h2, h3]
end
theorem Cz.sgn {w : World} {b : Bool} {s : Value} {z : Int} (h : Cz w (.agg #[.bool b, s]) z) : b = decide (z < 0) := by
  obtain ⟨A, c, e, hS⟩ := h
  injection e with e
  simp at e
  simpa using e.1
theorem Cn.nz {w : World} {x : Value} {M N : Nat} (h : Cn w x M) (hl : (digs M).length ≤ N) : Nz N w x M := by
  obtain ⟨A, c, e, hS⟩ := h
  exact ⟨A, _, c, _, e, hS, val_digs M, hl⟩
theorem zof_len {b : Bool} {M N : Nat} (h : (digs M).length ≤ N) : (digs (zof b M).natAbs).length ≤ N := by rwa [zof_abs]
theorem does_build_z2 {ops : Array Oper} {Q : Exit → Act → World → Prop} {base i : Nat} {a : Act} {w : World} {N M : Nat} {B : Bool} {x : Operand} {t : Tmp} {d : Option Tmp} {ty : TypeId} {pos : String} {after : Array Edge} {guard : Option (Nat × Bool)}
    (hi : ops[i]? = some ⟨d, .build 24 #[(0, x), (1, .tmp t)], ty, pos, after, guard⟩) (hg : Region.wanted ⟨d, .build 24 #[(0, x), (1, .tmp t)], ty, pos, after, guard⟩ (yielded ops a.tmps) = true)
    (hx : a.eval x = .bool B) (h : Cn w (Act.vs a t) M) (hl : (digs M).length ≤ N) :
    Does Try.prog ops Q base (.val (.az N (zof B M))) i ⟨d, .build 24 #[(0, x), (1, .tmp t)], ty, pos, after, guard⟩ a w := by
  obtain ⟨A, c, e, hS⟩ := h
  have k : a.eval (.tmp t) = .slice A (digs M).length c := e
  exact does_val hi hg (x_build2 hx k) ⟨B, A, _, c, _, rfl, hS, by rw [val_digs], hl⟩
theorem does_build_cn {ops : Array Oper} {Q : Exit → Act → World → Prop} {base i : Nat} {a : Act} {w : World} {M : Nat} {t : Tmp} {d : Option Tmp} {ty : TypeId} {pos : String} {after : Array Edge} {guard : Option (Nat × Bool)}
    (hi : ops[i]? = some ⟨d, .build 24 #[(1, .tmp t)], ty, pos, after, guard⟩) (hg : Region.wanted ⟨d, .build 24 #[(1, .tmp t)], ty, pos, after, guard⟩ (yielded ops a.tmps) = true) (h : Cn w (Act.vs a t) M) :
    Does Try.prog ops Q base (.val (.cz ((M : Nat) : Int))) i ⟨d, .build 24 #[(1, .tmp t)], ty, pos, after, guard⟩ a w := by
  obtain ⟨A, c, e, hS⟩ := h
  have k : a.eval (.tmp t) = .slice A (digs M).length c := e
  refine does_val hi hg (x_build1 k) ?_
  have hn : decide (((M : Nat) : Int) < 0) = false := by simp
  refine ⟨A, c, ?_, ?_⟩
  · rw [hn, Int.natAbs_natCast]
  · rw [Int.natAbs_natCast]; exact hS
theorem Bx.below {w v : World} {g : Nat} {t : TypeId} {cs : Array Value} (h : Bx w g t cs) (hb : Below w.heap.size w v) : Bx v g t cs := (hb.block g h.lt).trans h
theorem rz_cc {w : World} {x : Value} {p q : Int} {N : Nat} (h : (Known.pair (.cz p) (.cz q)).p w x) (h1 : (digs p.natAbs).length ≤ N) (h2 : (digs q.natAbs).length ≤ N) : Rz N w x p q := by
  obtain ⟨b, s, b2, s2, e, k1, k2⟩ := h
  exact ⟨b, s, b2, s2, e, Cz.az k1 h1, Cz.az k2 h2⟩
theorem Rz.to {w : World} {x : Value} {p q : Int} {N M : Nat} (h : Rz N w x p q) (hN : N ≤ M) : Rz M w x p q := by
  obtain ⟨b, s, b2, s2, e, k1, k2⟩ := h
  exact ⟨b, s, b2, s2, e, Az.to k1 hN, Az.to k2 hN⟩
theorem rdiv_cn {w : World} {x y : Value} {a b N M : Nat} (h : Nz N w x a) (h' : Nz M w y b) (hN : N ≤ 35184372088829) (hM : M ≤ 35184372088829) (h0 : 0 < b) : Calls Try.prog 50 #[x, y] w (Ret (.tup3 (.cn (a / b)) (.cn (a % b)) (.is (.int .i64 0))) w) := by
  obtain ⟨A, n, c, l, rfl, hS, rfl, hn⟩ := h
  obtain ⟨A', n', c', l', rfl, hS', rfl, hn'⟩ := h'
  refine (rdiv_calls w A n c l A' n' c' l' hS hS' h0 (by omega) (by omega)).mono fun _ _ h => ?_
  obtain ⟨B, d, B', d', rfl, hO, hO', hB⟩ := h
  exact ⟨_, rfl, ⟨_, _, _, rfl, ⟨⟨_, _, rfl, hO.sl⟩⟩, ⟨⟨_, _, rfl, hO'.sl⟩⟩, rfl⟩, hB⟩
theorem does_field_r {ops : Array Oper} {Q : Exit → Act → World → Prop} {base i : Nat} {a : Act} {w : World} {f g : Known} {t : Tmp} {d : Option Tmp} {ty : TypeId} {pos : String} {after : Array Edge} {guard : Option (Nat × Bool)}
    (hi : ops[i]? = some ⟨d, .field 29 (.tmp t) 0, ty, pos, after, guard⟩) (hg : Region.wanted ⟨d, .field 29 (.tmp t) 0, ty, pos, after, guard⟩ (yielded ops a.tmps) = true) (h : (Known.pair f g).p w (Act.vs a t)) :
    Does Try.prog ops Q base (.val f) i ⟨d, .field 29 (.tmp t) 0, ty, pos, after, guard⟩ a w := by
  obtain ⟨b, s, b2, s2, e, h1, _⟩ := h
  have k : a.eval (.tmp t) = .agg #[b, s, b2, s2] := e
  exact does_val hi hg (x_field_r k) h1
end Go.Proofs.Ytdmahjbjlppeaaa
