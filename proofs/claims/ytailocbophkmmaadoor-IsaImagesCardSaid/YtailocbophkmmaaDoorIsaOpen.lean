/-
  An instruction that comes in, opened.
-/
import Derived.Test.YtailocbophkmmaaDoorIsaLaid
set_option maxRecDepth 100000
namespace Go.Proofs.YtailocbophkmmaaDoor
open Go.ChangeShapes Go.WideShapes Go.ChangeAt Go.RowKit Go.WideElems Go.Deep

theorem cellsInstr : Tryd.prog.cellsOf 36 = 5 := by kernel_rfl
theorem oneInstr (fs : Array Field) (h : Tryd.prog.underlying 36 = some (.struct fs)) : oneCellFields Tryd.prog fs = true := by
  rw [Tryd.underlying36] at h; injection h with h; injection h with h; subst h; kernel_rfl
/-- The bounds of an instruction's numbers. -/
def InB (op d n m imm : Int) : Prop := (-128 ≤ op ∧ op ≤ 127) ∧ (-128 ≤ d ∧ d ≤ 127) ∧ (-128 ≤ n ∧ n ≤ 127) ∧ (-128 ≤ m ∧ m ≤ 127) ∧ (-9223372036854775808 ≤ imm ∧ imm ≤ 9223372036854775807)
theorem open_instr {H : Type} {enc : TypeId × Value → H} {W : World} {base : Nat} {v : Value} {d : DataW H} {p : List MemPlace} (hv : Value.okWide Tryd.prog W .any base 36 v) (h : DataW.Trod enc Tryd.prog W 0 (fun _ => true) true 36 v d p) :
    ∃ (op dd n m imm : Int) (d0 d1 d2 d3 d4 : DataW H), v = .agg #[.int .i8 op, .int .i8 dd, .int .i8 n, .int .i8 m, .int .i64 imm] ∧ d = .agg [d0, d1, d2, d3, d4] ∧ InB op dd n m imm := by
  obtain ⟨cs, ys, n, rfl, rfl, hc, hy, hf⟩ := open_struct Tryd.underlying36 (oneInstr _ Tryd.underlying36) cellsInstr hv h
  match cs, hc with
  | [c0, c1, c2, c3, c4], _ =>
    match ys, hy with
    | [y0, y1, y2, y3, y4], _ =>
      obtain ⟨_, _, _, e0, e1, e2, h0⟩ := hf 0 (by decide)
      simp at e0 e1 e2; subst e0 e1 e2
      obtain ⟨x0, k0, _, w0⟩ := DataW.trod_int Tryd.underlying23 h0
      obtain ⟨_, _, _, e0, e1, e2, h1⟩ := hf 1 (by decide)
      simp at e0 e1 e2; subst e0 e1 e2
      obtain ⟨x1, k1, _, w1⟩ := DataW.trod_int Tryd.underlying23 h1
      obtain ⟨_, _, _, e0, e1, e2, h2⟩ := hf 2 (by decide)
      simp at e0 e1 e2; subst e0 e1 e2
      obtain ⟨x2, k2, _, w2⟩ := DataW.trod_int Tryd.underlying23 h2
      obtain ⟨_, _, _, e0, e1, e2, h3⟩ := hf 3 (by decide)
      simp at e0 e1 e2; subst e0 e1 e2
      obtain ⟨x3, k3, _, w3⟩ := DataW.trod_int Tryd.underlying23 h3
      obtain ⟨_, _, _, e0, e1, e2, h4⟩ := hf 4 (by decide)
      simp at e0 e1 e2; subst e0 e1 e2
      obtain ⟨x4, k4, _, w4⟩ := DataW.trod_int Tryd.underlying2 h4
      simp at k0 k1 k2 k3 k4; subst k0 k1 k2 k3 k4
      exact ⟨x0, x1, x2, x3, x4, _, _, _, _, _, rfl, rfl, bounds_i8 w0, bounds_i8 w1, bounds_i8 w2, bounds_i8 w3, bounds_i64 w4⟩
end Go.Proofs.YtailocbophkmmaaDoor
