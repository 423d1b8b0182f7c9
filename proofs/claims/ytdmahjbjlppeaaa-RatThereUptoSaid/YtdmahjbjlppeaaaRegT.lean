
/- More of strings as steps of a plan: cuts of a string, HasPrefix. -/
import Derived.Test.YtdmahjbjlppeaaaRegR
import Derived.Test.YtdmahjbjlppeaaaNumT
namespace Go.Proofs.Ytdmahjbjlppeaaa
open Go.RowKit

theorem byteN_cut {s : ByteArray} {a b i : Nat} (hb : b ≤ s.size) (h : a + i < b) : byteN (s.extract a b) i = byteN s (a + i) := by
  have h1 : i < (s.extract a b).size := by rw [ByteArray.size_extract]; omega
  rw [byteN_at h1, byteN_at (by omega : a + i < s.size), ByteArray.getElem_extract]
theorem size_cut {s : ByteArray} {a b : Nat} (hb : b ≤ s.size) : (s.extract a b).size = b - a := by
  rw [ByteArray.size_extract]; omega
section
variable {d : Option Tmp} {ty : TypeId} {pos : String} {after : Array Edge} {guard : Option (Nat × Bool)} {a : Act} {w : World}
theorem x_neq_u8 {x y : Operand} {m n : Int} (hx : a.eval x = .int .u8 m) (hy : a.eval y = .int .u8 n) : (execOp a.eval ⟨d, .binOp .neq 5 x y 5, ty, pos, after, guard⟩).run Try.prog w = .ok (.value (.bool (!(m == n)))) w := by
  simp only [execOp, hx, hy]
  go_simp
  rfl
theorem x_conv_8_i64 {x : Operand} {n : Int} (hx : a.eval x = .int .u8 n) (h : IntKind.i64.wrap n = n) : (execOp a.eval ⟨d, .convert 5 2 x, ty, pos, after, guard⟩).run Try.prog w = .ok (.value (.int .i64 n)) w := by
  simp only [execOp, hx]
  go_simp
theorem x_cut_to {x y : Operand} {s : ByteArray} {k : Nat} (hx : a.eval x = .string s) (hy : a.eval y = .int .i64 (k : Int)) (hk : k ≤ s.size) :
    (execOp a.eval ⟨d, .slice 9 x none (some y) none, ty, pos, after, guard⟩).run Try.prog w = .ok (.value (.string (s.extract 0 k))) w := by
  have h1 : (k : Int) ≤ s.size := by omega
  simp only [execOp, hx, hy, Option.map_some, Option.map_none]
  go_simp
theorem x_cut_from {x y : Operand} {s : ByteArray} {k : Nat} (hx : a.eval x = .string s) (hy : a.eval y = .int .i64 (k : Int)) (hk : k ≤ s.size) :
    (execOp a.eval ⟨d, .slice 9 x (some y) none none, ty, pos, after, guard⟩).run Try.prog w = .ok (.value (.string (s.extract k s.size))) w := by
  have h1 : (k : Int) ≤ s.size := by omega
  simp only [execOp, hx, hy, Option.map_some, Option.map_none]
  go_simp
theorem x_cut_both {x y z : Operand} {s : ByteArray} {k l : Nat} (hx : a.eval x = .string s) (hy : a.eval y = .int .i64 (k : Int)) (hz : a.eval z = .int .i64 (l : Int)) (hk : k ≤ l) (hl : l ≤ s.size) :
    (execOp a.eval ⟨d, .slice 9 x (some y) (some z) none, ty, pos, after, guard⟩).run Try.prog w = .ok (.value (.string (s.extract k l))) w := by
  have h1 : (k : Int) ≤ l := by omega
  have h2 : (l : Int) ≤ s.size := by omega
  simp only [execOp, hx, hy, hz, Option.map_some, Option.map_none]
  go_simp
end
theorem prefix_k {w : World} {x y : Value} {s : ByteArray} {b : Bool} (e : x = .string s) (e2 : y = .string (⟨#[45]⟩ : ByteArray)) (hb : Lib.hasPrefix s.data.toList [45] = b) : Calls Try.prog 72 #[x, y] w (Ret (.is (.bool b)) w) := by
  subst e e2 hb
  refine (Try.strings_HasPrefix s ⟨#[45]⟩ w).mono fun e w' h => ?_
  obtain ⟨h1, h2⟩ := h
  exact ⟨_, h1, rfl, by rw [h2]; exact Below.refl _ _⟩
section
variable {fn : Func} {tmps : Array Value} {w : World}
theorem ret_rtt {t u v : Tmp} {g : Nat} {ty : TypeId} {b s b2 s2 : Value} (h : fn.results = #[.cell t 29, .tmp u, .tmp v]) (hp : tmps.getD t undef = .pointer (some ⟨g, 0, none⟩)) (hB : Bx w g ty #[b, s, b2, s2]) :
    (results fn tmps).run Try.prog w = .ok (.tuple #[.agg #[b, s, b2, s2], tmps.getD u undef, tmps.getD v undef]) w := by
  have h0 : w.cell? ⟨g, 0, none⟩ = some b := cell_of_row w g 0 _ ty (0, 0) hB
  have h1 : w.cell? ⟨g, 1, none⟩ = some s := cell_of_row w g 1 _ ty (0, 0) hB
  have h2 : w.cell? ⟨g, 2, none⟩ = some b2 := cell_of_row w g 2 _ ty (0, 0) hB
  have h3 : w.cell? ⟨g, 3, none⟩ = some s2 := cell_of_row w g 3 _ ty (0, 0) hB
  have hp2 : tmps[t]?.getD undef = .pointer (some ⟨g, 0, none⟩) := by rw [← hp]; simp
  simp [results, h, hp2, go_sem, h0, h1, h2, h3]
end
end Go.Proofs.Ytdmahjbjlppeaaa
