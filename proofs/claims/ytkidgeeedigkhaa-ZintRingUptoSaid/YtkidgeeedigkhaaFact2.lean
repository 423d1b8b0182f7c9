/- Loads of a struct and calls as steps of a region. -/
import Derived.Test.YtkidgeeedigkhaaFact
import Derived.Test.YtkidgeeedigkhaaZVal
namespace Go.Proofs.Ytkidgeeedigkhaa
open Go.RowKit

theorem load_zb {d : Option Tmp} {ty : TypeId} {pos : String} {after : Array Edge} {guard : Option (Nat × Bool)} {t : Tmp} {a : Act} {w : World} {g : Nat} {neg : Bool} {v : Value}
    (ht : a.tmps.getD t undef = .pointer (some ⟨g, 0, none⟩)) (hZ : Zb w g neg v) :
    (execOp a.eval ⟨d, .load 24 (.tmp t), ty, pos, after, guard⟩).run Try.prog w = .ok (.value (.agg #[.bool neg, v])) w := by
  have h0 := hZ.cell0
  have h1 := hZ.cell1
  have e : a.eval (.tmp t) = .pointer (some ⟨g, 0, none⟩) := ht
  simp only [execOp, e]
  go_simp
theorem call1 {P : Program} {d : Option Tmp} {ty : TypeId} {pos : String} {after : Array Edge} {guard : Option (Nat × Bool)} {f : FuncId} {T : Array TypeId} {x : Tmp} {a : Act} {w : World}
    (hc : ∀ args w, (callFunc f args).run P w = .ok (.enter f args) w) :
    (execOp a.eval ⟨d, .call { callee := .value (.func f), args := #[.tmp x], argTypes := T }, ty, pos, after, guard⟩).run P w = .ok (.enter f #[a.tmps.getD x undef]) w := by
  rw [execOp_call_go, hc]
  simp [Act.eval]
theorem call2 {P : Program} {d : Option Tmp} {ty : TypeId} {pos : String} {after : Array Edge} {guard : Option (Nat × Bool)} {f : FuncId} {T : Array TypeId} {x y : Tmp} {a : Act} {w : World}
    (hc : ∀ args w, (callFunc f args).run P w = .ok (.enter f args) w) :
    (execOp a.eval ⟨d, .call { callee := .value (.func f), args := #[.tmp x, .tmp y], argTypes := T }, ty, pos, after, guard⟩).run P w = .ok (.enter f #[a.tmps.getD x undef, a.tmps.getD y undef]) w := by
  rw [execOp_call_go, hc]
  simp [Act.eval]
theorem not1 {P : Program} {d : Option Tmp} {B ty : TypeId} {pos : String} {after : Array Edge} {guard : Option (Nat × Bool)} {x : Tmp} {a : Act} {w : World} {b : Bool} (h : a.tmps.getD x undef = .bool b) :
    (execOp a.eval ⟨d, .unOp .not B (.tmp x), ty, pos, after, guard⟩).run P w = .ok (.value (.bool (!b))) w := by
  have e : a.eval (.tmp x) = .bool b := h
  simp only [execOp, e]
  go_simp
theorem move1 {P : Program} {d : Option Tmp} {ty : TypeId} {pos : String} {after : Array Edge} {guard : Option (Nat × Bool)} {x : Tmp} {a : Act} {w : World} {b : Value} (h : a.tmps.getD x undef = b) :
    (execOp a.eval ⟨d, .move (.tmp x), ty, pos, after, guard⟩).run P w = .ok (.value b) w := by
  have e : a.eval (.tmp x) = b := h
  simp only [execOp, e]
  go_simp
theorem assign1 {P : Program} {d : Option Tmp} {ty : TypeId} {pos : String} {after : Array Edge} {guard : Option (Nat × Bool)} {x : Tmp} {a : Act} {w : World} {b : Value} (h : a.tmps.getD x undef = b) :
    (execOp a.eval ⟨d, .assign (.tmp x), ty, pos, after, guard⟩).run P w = .ok (.value b) w := by
  have e : a.eval (.tmp x) = b := h
  simp only [execOp, e]
  go_simp
theorem pick1 {P : Program} {d : Option Tmp} {ty : TypeId} {pos : String} {after : Array Edge} {guard : Option (Nat × Bool)} {x : Tmp} {y z : Operand} {a : Act} {w : World} {b : Bool} (h : a.tmps.getD x undef = .bool b) :
    (execOp a.eval ⟨d, .pick (.tmp x) y z, ty, pos, after, guard⟩).run P w = .ok (.value (if b then a.eval y else a.eval z)) w := by
  have e : a.eval (.tmp x) = .bool b := h
  simp only [execOp, e]
  cases b <;> rfl

theorem len_add' {y z : Int} {k m n : Nat} (hy : (digs y.natAbs).length ≤ k) (hz : (digs z.natAbs).length ≤ m) (hk : k + 1 ≤ n) (hm : m + 1 ≤ n) : (digs (y + z).natAbs).length ≤ n :=
  Nat.le_trans (len_add (k := n - 1) (by omega) (by omega)) (by omega)
theorem len_sub' {y z : Int} {k m n : Nat} (hy : (digs y.natAbs).length ≤ k) (hz : (digs z.natAbs).length ≤ m) (hk : k + 1 ≤ n) (hm : m + 1 ≤ n) : (digs (y - z).natAbs).length ≤ n := by
  rw [Int.sub_eq_add_neg]
  exact len_add' hy (len_neg hz) hk hm
theorem eq_b {f : FuncId} {args : Array Value} {w : World} {b : Value} (h : Calls Try.prog f args w fun e w' => e = .returned b ∧ Below w.heap.size w w') :
    Calls Try.prog f args w fun e w' => ∃ v, e = .returned v ∧ v = b ∧ Below w.heap.size w w' := h.mono fun _ _ h => ⟨b, h.1, rfl, h.2⟩

/-- What is known of a value, and stays known. -/
structure Fact where
  p : World → Value → Prop
  keep : ∀ w w' v, p w v → Below w.heap.size w w' → p w' v
def Fact.az (N : Nat) (z : Int) : Fact := ⟨fun w x => Az N w x z, fun _ _ _ h hB => h.below hB⟩
def Fact.cz (z : Int) : Fact := ⟨fun w x => Cz w x z, fun _ _ _ h hB => h.below hB⟩
def Fact.is (v : Value) : Fact := ⟨fun _ x => x = v, fun _ _ _ h _ => h⟩
def Fact.any : Fact := ⟨fun _ _ => True, fun _ _ _ h _ => h⟩
def facts (l : List Fact) (i : Nat) : World → Value → Prop := (l.getD i .any).p
theorem wp_region_facts' {P : Program} {id : Nat} {ops : Array Oper} {Q : Exit → Act → World → Prop} {a0 : Act} {w0 : World} (l : List Fact)
    (hm : P.follows .mixedOrders = true) (hp : plainOps a0.tmps.size ops = true) 
    (hobs : Obs P ops Q (facts l) a0 w0.drew 0 ops.toList)
    (hend : ∀ (g : Nat → Value) w, Below w0.drew.heap.size w0.drew w → (∀ i, i < ops.size → facts l i w (g i)) → Q .normal ⟨fillL a0.tmps ops.toList 0 g, a0.defers⟩ w) :
    (Code.region id ops true).wp P Q a0 w0 :=
  wp_region_facts (facts l) hm hp (fun i w w' v h hB => (l.getD i .any).keep w w' v h hB) hobs hend
end Go.Proofs.Ytkidgeeedigkhaa
