/-
  What all walks of this family import, and small lemmas: a callee that leaves all that was there as it was.
-/
import Derived.Test.YtailocbophkmmaaDoorProg
import Derived.WalkKit
import Derived.WalkSpells
import Derived.WalkLawsBesides
import Derived.Deep.QuietTactic
import Derived.BigQuiet
import Derived.Lib.Hide
import Derived.Lib.QuietBelow
import Derived.Deep.DeepFit
import Derived.Outline
namespace Go.Proofs.YtailocbophkmmaaDoor
open Go.RowKit

/-- What a callee that writes nothing old leaves to its caller's walk: blocks have only come; old cells read as they did. -/
theorem bcell {W w1 : World} (hb : Below W.heap.size W w1) : W.heap.size ≤ w1.heap.size ∧ (∀ b o, b < W.heap.size → w1.cell? ⟨b, o, none⟩ = W.cell? ⟨b, o, none⟩) ∧ (∀ b o, b < W.heap.size → w1.frozen? ⟨b, o, none⟩ = W.frozen? ⟨b, o, none⟩) :=
  ⟨hb.size, fun b o h => hb.cell (p := ⟨b, o, none⟩) h, fun b o h => hb.frozen (p := ⟨b, o, none⟩) h⟩

theorem bthen {w W w2 : World} (k : Below W.heap.size W w2) (h : Below w.heap.size w W) : Below w.heap.size w w2 := h.trans (k.mono h.size)
theorem balloc {w W : World} (o : Obj) (h : Below w.heap.size w W) : Below w.heap.size w (W.alloc o) := h.alloc h.size o
theorem bdrewN {B : Nat} {w W : World} (n : Nat) (h : Below B w W) : Below B w (W.drewN n) := ⟨h.os, h.tape, h.output, h.size, h.block⟩
theorem bdrew {B : Nat} {w W : World} (h : Below B w W) : Below B w W.drew := h.drew
theorem bset {w W : World} {a : Addr} {v : Value} (hp : w.heap.size ≤ a.block) (h : Below w.heap.size w W) : Below w.heap.size w (W.setCell a v) := h.setCell hp v

/-- A block that is known whole, its cells and that none is frozen. -/
theorem blkc {w : World} {g : Nat} {t : TypeId} {cs : Array Value} (h : w.heap[g]? = some (.cells cs t (0, 0))) : (∀ i, w.cell? ⟨g, i, none⟩ = cs[i]?) ∧ (∀ i, w.frozen? ⟨g, i, none⟩ = false) :=
  ⟨fun i => cell_of_row w g i cs t (0, 0) h, fun i => by simp [World.frozen?, h]⟩
theorem blk_lt {w : World} {g : Nat} {o : Obj} (h : w.heap[g]? = some o) : g < w.heap.size := (Array.getElem?_eq_some_iff.1 h).1
theorem blk_new (w : World) (o : Obj) {n : Nat} (hn : n = w.heap.size) : (w.alloc o).heap[n]? = some o := by subst hn; exact heap_alloc_new w o
theorem blk_alloc {w : World} {g : Nat} {x : Obj} (h : w.heap[g]? = some x) (o : Obj) : (w.alloc o).heap[g]? = some x := (Below.heap_alloc w o g (blk_lt h)).trans h
theorem blk_below {w w' : World} {B g : Nat} {x : Obj} (hb : Below B w w') (hg : g < B) (h : w.heap[g]? = some x) : w'.heap[g]? = some x := (hb.block g hg).trans h
theorem blk_far {w : World} {g : Nat} {x : Obj} {p : Addr} (hp : g ≠ p.block) (u : Value) (h : w.heap[g]? = some x) : (w.setCell p u).heap[g]? = some x := (Below.heap_setCell w p u g hp).trans h
theorem blk_set {w : World} {g : Nat} {t : TypeId} {cs cs' : Array Value} (i : Nat) (u : Value) (hc : cs' = cs.setIfInBounds i u) (h : w.heap[g]? = some (.cells cs t (0, 0))) : (w.setCell ⟨g, i, none⟩ u).heap[g]? = some (.cells cs' t (0, 0)) := by
  subst hc
  simp [World.setCell, Array.getElem?_modify, h]

/-- The world at a region under a name of its own. -/
theorem region_intro {P : Program} {c : Code} {Q : Exit → Act → World → Prop} {a : Act} {w : World} (h : ∀ W, w = W → c.wp P Q a W) : c.wp P Q a w := h w rfl
theorem regrown_below {W w' : World} (h : ∃ p : Regrown, w' = Go.Sort.grow (redrawn W p.d) p.os) : Below W.heap.size W w' := by
  obtain ⟨p, rfl⟩ := h
  exact below_regrown _ _ _
/-- Old cells in all worlds of the class. -/
theorem regrown_cells {W : World} : (∀ d os b o, b < W.heap.size → (Go.Sort.grow (redrawn W d) os).cell? ⟨b, o, none⟩ = W.cell? ⟨b, o, none⟩) :=
  fun d os b o h => (below_regrown W d os).cell (p := ⟨b, o, none⟩) h

end Go.Proofs.YtailocbophkmmaaDoor
