/-
  The instructions' names, as the table lies in memory.
-/
import Derived.Test.YtailocbophkmmaaDoorIsaText0
namespace Go.Proofs.YtailocbophkmmaaDoor
open Go.RowKit FP

def nameL : Nat → List UInt8
  | 0 => [110, 111, 112] | 1 => [109, 111, 118] | 2 => [97, 100, 100] | 3 => [115, 117, 98] | 4 => [97, 110, 100] | 5 => [111, 114, 114] | 6 => [101, 111, 114] | 7 => [97, 100, 100, 105] | 8 => [108, 100, 114] | 9 => [115, 116, 114]
  | 10 => [108, 100, 120, 114] | 11 => [115, 116, 120, 114] | 12 => [115, 116, 108, 114] | 13 => [100, 109, 98] | 14 => [98] | 15 => [99, 98, 122] | 16 => [99, 98, 110, 122] | 17 => [115, 118, 99] | _ => [98, 97, 100]
def Names (w : World) : Prop := ∀ n, n < 19 → w.cell? ⟨2, n, none⟩ = some (.string ⟨(nameL n).toArray⟩)
theorem Names.below {w w' : World} (h : Names w) (hb : Below w.heap.size w w') : Names w' := fun n hn => (hb.cell (p := ⟨_, _, none⟩) (World.block_lt_of_cell? w _ (h n hn))).trans (h n hn)
theorem Names.mov {w : World} (h : Names w) : NameMov w := h 1 (by omega)
end Go.Proofs.YtailocbophkmmaaDoor
