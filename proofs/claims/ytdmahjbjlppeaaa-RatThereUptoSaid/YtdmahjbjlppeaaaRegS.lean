
/- Strings and small numbers as steps of a plan. -/
import Derived.Test.YtdmahjbjlppeaaaA5
import Derived.Test.YtdmahjbjlppeaaaNum9
namespace Go.Proofs.Ytdmahjbjlppeaaa
open Go.RowKit

section
variable {d : Option Tmp} {ty : TypeId} {pos : String} {after : Array Edge} {guard : Option (Nat × Bool)} {a : Act} {w : World}
theorem x_len_str {t : Tmp} {s : ByteArray} (hx : Act.vs a t = .string s) : (execOp a.eval ⟨d, .call { callee := .builtin .len, args := #[.tmp t], argTypes := #[9] }, ty, pos, after, guard⟩).run Try.prog w = .ok (.value (.int .i64 s.size)) w := by
  have e : a.tmps[t]?.getD undef = .string s := by rw [← hx]; simp [Act.vs]
  simp [go_sem, e]
theorem x_index_str {x i : Operand} {s : ByteArray} {k : Nat} (hx : a.eval x = .string s) (hi : a.eval i = .int .i64 (k : Int)) (hk : k < s.size) :
    (execOp a.eval ⟨d, .index 9 x i, ty, pos, after, guard⟩).run Try.prog w = .ok (.value (.int .u8 (byteN s k : Int))) w := by
  have h1 : (k : Int) < s.size := by omega
  rw [byteN_at hk]
  simp only [execOp, hx, hi]
  go_simp
theorem x_eql_u8 {x y : Operand} {m n : Int} (hx : a.eval x = .int .u8 m) (hy : a.eval y = .int .u8 n) : (execOp a.eval ⟨d, .binOp .eql 5 x y 5, ty, pos, after, guard⟩).run Try.prog w = .ok (.value (.bool (m == n))) w := by
  simp only [execOp, hx, hy]
  go_simp
theorem x_sub_u8 {T' : TypeId} {x y : Operand} {m n : Int} (hx : a.eval x = .int .u8 m) (hy : a.eval y = .int .u8 n) (h : IntKind.u8.wrap (m - n) = m - n) : (execOp a.eval ⟨d, .binOp .sub 5 x y T', ty, pos, after, guard⟩).run Try.prog w = .ok (.value (.int .u8 (m - n))) w := by
  simp only [execOp, hx, hy]
  go_simp
theorem x_add_u32 {T' : TypeId} {x y : Operand} {m n : Int} (hx : a.eval x = .int .u32 m) (hy : a.eval y = .int .u32 n) (h : IntKind.u32.wrap (m + n) = m + n) : (execOp a.eval ⟨d, .binOp .add 68 x y T', ty, pos, after, guard⟩).run Try.prog w = .ok (.value (.int .u32 (m + n))) w := by
  simp only [execOp, hx, hy]
  go_simp
theorem x_mul_u32 {T' : TypeId} {x y : Operand} {m n : Int} (hx : a.eval x = .int .u32 m) (hy : a.eval y = .int .u32 n) (h : IntKind.u32.wrap (m * n) = m * n) : (execOp a.eval ⟨d, .binOp .mul 68 x y T', ty, pos, after, guard⟩).run Try.prog w = .ok (.value (.int .u32 (m * n))) w := by
  simp only [execOp, hx, hy]
  go_simp
theorem x_add_i64 {T' : TypeId} {x y : Operand} {m n : Int} (hx : a.eval x = .int .i64 m) (hy : a.eval y = .int .i64 n) (h : IntKind.i64.wrap (m + n) = m + n) : (execOp a.eval ⟨d, .binOp .add 2 x y T', ty, pos, after, guard⟩).run Try.prog w = .ok (.value (.int .i64 (m + n))) w := by
  simp only [execOp, hx, hy]
  go_simp
theorem x_conv_u_i {x : Operand} {n : Int} (hx : a.eval x = .int .u64 n) (h : IntKind.i64.wrap n = n) : (execOp a.eval ⟨d, .convert 81 2 x, ty, pos, after, guard⟩).run Try.prog w = .ok (.value (.int .i64 n)) w := by
  simp only [execOp, hx]
  go_simp
theorem x_neq_str {x y : Operand} {m n : ByteArray} (hx : a.eval x = .string m) (hy : a.eval y = .string n) : (execOp a.eval ⟨d, .binOp .neq 9 x y 9, ty, pos, after, guard⟩).run Try.prog w = .ok (.value (.bool (!(m.toList == n.toList)))) w := by
  simp only [execOp, hx, hy]
  go_simp
theorem x_eql_str {x y : Operand} {m n : ByteArray} (hx : a.eval x = .string m) (hy : a.eval y = .string n) : (execOp a.eval ⟨d, .binOp .eql 9 x y 9, ty, pos, after, guard⟩).run Try.prog w = .ok (.value (.bool (m.toList == n.toList))) w := by
  simp only [execOp, hx, hy]
  go_simp
theorem x_conv_8_32 {x : Operand} {n : Int} (hx : a.eval x = .int .u8 n) (h : IntKind.u32.wrap n = n) : (execOp a.eval ⟨d, .convert 5 68 x, ty, pos, after, guard⟩).run Try.prog w = .ok (.value (.int .u32 n)) w := by
  simp only [execOp, hx]
  go_simp
theorem x_min9 {t : Tmp} {n : Int} (hy : Act.vs a t = .int .i64 n) : (execOp a.eval ⟨d, .call { callee := .builtin .min, args := #[.const (.int .i64 9), .tmp t], argTypes := #[3, 3] }, ty, pos, after, guard⟩).run Try.prog w = .ok (.value (.int .i64 (min 9 n))) w := by
  have e : a.tmps[t]?.getD undef = .int .i64 n := by rw [← hy]; simp [Act.vs]
  simp [go_sem, e]
end
/-- A literal of one limb. -/
theorem does_slice1 {ops : Array Oper} {Q : Exit → Act → World → Prop} {base i : Nat} {a : Act} {w : World} {x : Operand} {v : Int} {d : Option Tmp} {ty : TypeId} {pos : String} {after : Array Edge} {guard : Option (Nat × Bool)}
    (hi : ops[i]? = some ⟨d, .buildSlice 22 1 #[(0, x)], ty, pos, after, guard⟩) (hg : Region.wanted ⟨d, .buildSlice 22 1 #[(0, x)], ty, pos, after, guard⟩ (yielded ops a.tmps) = true) (hx : a.eval x = .int .u32 v) (h0 : 0 ≤ v) (h1 : v < 4294967296) :
    Does Try.prog ops Q base (.val (.nz 1 v.toNat)) i ⟨d, .buildSlice 22 1 #[(0, x)], ty, pos, after, guard⟩ a w := by
  have e : (execOp a.eval ⟨d, .buildSlice 22 1 #[(0, x)], ty, pos, after, guard⟩).run Try.prog w = .ok (.value (.slice (some ⟨w.heap.size, 0, none⟩) 1 1)) (w.alloc (.cells #[.int .u32 v] 68)) := by
    simp only [execOp, List.map_toArray, List.map_cons, List.map_nil, hx]
    go_simp
  unfold Does wpOp
  simp only [hi, hg, if_true]
  left
  unfold Oper.wp
  rw [e]
  refine ⟨_, rfl, ?_, (Below.refl _ _).alloc (Nat.le_refl _) _⟩
  exact ⟨_, _, _, _, rfl, (Row.lit1 w h0 h1).toOwn.sl, val_one v, Nat.le_refl _⟩
theorem nz_nil (w : World) (N : Nat) : Nz N w (.slice none 0 0) 0 := ⟨none, 0, 0, [], rfl, Sl.nil w none 0, rfl, Nat.zero_le _⟩
theorem nz_to {N M M' : Nat} {w : World} {x : Value} (h : Nz N w x M) (e : M = M') : Nz N w x M' := e ▸ h
section
variable {fn : Func} {tmps : Array Value} {w : World}
theorem ret_ctt {t u v : Tmp} {g : Nat} {ty : TypeId} {b s : Value} (h : fn.results = #[.cell t 24, .tmp u, .tmp v]) (hp : tmps.getD t undef = .pointer (some ⟨g, 0, none⟩)) (hB : Bx w g ty #[b, s]) :
    (results fn tmps).run Try.prog w = .ok (.tuple #[.agg #[b, s], tmps.getD u undef, tmps.getD v undef]) w := by
  have h0 : w.cell? ⟨g, 0, none⟩ = some b := cell_of_row w g 0 _ ty (0, 0) hB
  have h1 : w.cell? ⟨g, 1, none⟩ = some s := cell_of_row w g 1 _ ty (0, 0) hB
  have hp2 : tmps[t]?.getD undef = .pointer (some ⟨g, 0, none⟩) := by rw [← hp]; simp
  simp [results, h, hp2, go_sem, h0, h1]
end
/-- The guard of an operation that looks at one that was passed over. -/
theorem unwanted_by {ops : Array Oper} {o : Oper} {a : Act} {j : Nat} {want : Bool} {d : Nat} (hgd : o.guard = some (j, want)) (hd : opAt ops j = some d) (h : Act.vs a d = undef) : Region.wanted o (yielded ops a.tmps) = false := by
  have hy : yielded ops a.tmps j = none := by
    unfold yielded
    rw [show (ops[j]?).bind (·.dst) = opAt ops j from rfl, hd]
    simp only [Option.bind_some]
    have h2 : a.tmps.getD d undef = undef := h
    cases e : a.tmps[d]? with
    | none => rfl
    | some v =>
      rw [Array.getD_eq_getD_getElem?, e, Option.getD_some] at h2
      rw [h2]
      rfl
  unfold Region.wanted
  rw [hgd]
  simp only [hy]
  rfl
end Go.Proofs.Ytdmahjbjlppeaaa
