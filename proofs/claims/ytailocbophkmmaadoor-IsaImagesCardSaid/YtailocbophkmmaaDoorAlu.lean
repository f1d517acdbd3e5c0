/-
  Package alu: Check's walk.
-/
import Derived.Test.YtailocbophkmmaaDoorBase
namespace Go.Proofs.YtailocbophkmmaaDoor
open Go.RowKit

def hasD (n : Nat) : Bool := n == 1 || n == 2 || n == 3 || n == 4 || n == 5 || n == 6 || n == 7 || n == 8 || n == 9 || n == 10 || n == 11 || n == 12 || n == 15 || n == 16
def hasN (n : Nat) : Bool := n == 2 || n == 3 || n == 4 || n == 5 || n == 6 || n == 7 || n == 8 || n == 9 || n == 10 || n == 11 || n == 12
def hasM (n : Nat) : Bool := n == 2 || n == 3 || n == 4 || n == 5 || n == 6 || n == 11
def leastI (n : Nat) : Int := if n = 7 then -2048 else if n = 14 ∨ n = 15 ∨ n = 16 then -1024 else 0
def mostI (n : Nat) : Int := if n = 1 then 65535 else if n = 7 then 2047 else if n = 14 ∨ n = 15 ∨ n = 16 then 1023 else 0
def regB (k : Int) (has : Bool) : Bool := decide (k = 0 ∨ has = true ∧ 0 < k ∧ k < 8)
/-- May the instruction be? -/
def okB (op d n m imm : Int) : Bool := decide (0 ≤ op ∧ op ≤ 18) && (regB d (hasD op.toNat) && (regB n (hasN op.toNat) && (regB m (hasM op.toNat) && decide (leastI op.toNat ≤ imm ∧ imm ≤ mostI op.toNat))))
def chkA (op d n m imm : Int) : Int := if okB op d n m imm then 0 else 60

theorem ret_bool {a b : Bool} (h : a = b) : Ending.returned (.bool a) = .returned (.bool b) := by rw [h]
theorem ret_i {a b : Int} (h : a = b) : Ending.returned (.int .i64 a) = .returned (.int .i64 b) := by rw [h]
theorem register_any (k : Int) (has : Bool) (w : World) :
    Calls Tryd.prog 41 #[.int .i8 k, .bool has] w fun e w' => e = .returned (.bool (regB k has)) ∧ Below w.heap.size w w' := by
  cases has
  all_goals
    go_enter Tryd.func41, Tryd.ntmps41
    go_wp2
    all_goals
      go_ret
      exact ⟨ret_bool (by grind [regB]), (by repeat (first | (with_reducible exact Below.refl _ _) | (with_reducible assumption) | (with_reducible refine bthen (by with_reducible assumption) ?_) | (with_reducible refine balloc _ ?_) | (with_reducible refine bdrewN _ ?_) | (with_reducible refine bdrew ?_) | (with_reducible refine bset (by first | exact Nat.le_refl _ | (dsimp only; omega)) ?_)))⟩

/-- The instructions' shapes, as the table lies in memory. -/
def Shapes (w : World) : Prop := ∀ n, n < 19 → w.cell? ⟨3, n * 5, none⟩ = some (.bool (hasD n)) ∧ w.cell? ⟨3, n * 5 + 1, none⟩ = some (.bool (hasN n)) ∧ w.cell? ⟨3, n * 5 + 2, none⟩ = some (.bool (hasM n)) ∧
  w.cell? ⟨3, n * 5 + 3, none⟩ = some (.int .i64 (leastI n)) ∧ w.cell? ⟨3, n * 5 + 4, none⟩ = some (.int .i64 (mostI n))
theorem Shapes.below {w w' : World} (h : Shapes w) (hb : Below w.heap.size w w') : Shapes w' := fun n hn => by
  have hlt : 3 < w.heap.size := World.block_lt_of_cell? w _ (h 0 (by omega)).1
  obtain ⟨h0, h1, h2, h3, h4⟩ := h n hn
  exact ⟨(hb.cell (p := ⟨_, _, none⟩) hlt).trans h0, (hb.cell (p := ⟨_, _, none⟩) hlt).trans h1, (hb.cell (p := ⟨_, _, none⟩) hlt).trans h2, (hb.cell (p := ⟨_, _, none⟩) hlt).trans h3, (hb.cell (p := ⟨_, _, none⟩) hlt).trans h4⟩
set_option maxHeartbeats 1000000 in
theorem checkA_in (k : Nat) (d n m imm : Int) (w : World) (hk : k < 19) (hS : Shapes w) :
    Calls Tryd.prog 19 #[.agg #[.int .i8 k, .int .i8 d, .int .i8 n, .int .i8 m, .int .i64 imm]] w fun e w' => e = .returned (.int .i64 (chkA k d n m imm)) ∧ Below w.heap.size w w' := by
  have hlt : 3 < w.heap.size := World.block_lt_of_cell? w _ (hS 0 (by omega)).1
  obtain ⟨g0, g1, g2, g3, g4⟩ := hS k hk
  go_enter Tryd.func19, Tryd.ntmps19
  go_wp2_with (go_at_call 41; (with_reducible refine (register_any _ _ _).mono ?_); rintro e w' ⟨rfl, hb⟩; obtain ⟨hz, hc, hf⟩ := bcell hb; (try simp only [World.size_alloc, World.size_drew, World.heap_drewN, World.size_setCell] at hz); (try have hs0 : w.heap.size < w'.heap.size := by omega); (try have hs1 : w.heap.size + 1 < w'.heap.size := by omega); (try have hs2 : w.heap.size + 2 < w'.heap.size := by omega))
  all_goals
    go_ret
    exact ⟨ret_i (by grind [chkA, okB]), (by repeat (first | (with_reducible exact Below.refl _ _) | (with_reducible assumption) | (with_reducible refine bthen (by with_reducible assumption) ?_) | (with_reducible refine balloc _ ?_) | (with_reducible refine bdrewN _ ?_) | (with_reducible refine bdrew ?_) | (with_reducible refine bset (by first | exact Nat.le_refl _ | (dsimp only; omega)) ?_)))⟩
theorem checkA_out (op : Int) (d n m imm : Int) (w : World) (hk : ¬ (0 ≤ op ∧ op ≤ 18)) :
    Calls Tryd.prog 19 #[.agg #[.int .i8 op, .int .i8 d, .int .i8 n, .int .i8 m, .int .i64 imm]] w fun e w' => e = .returned (.int .i64 (chkA op d n m imm)) ∧ Below w.heap.size w w' := by
  go_enter Tryd.func19, Tryd.ntmps19
  go_wp2
  all_goals
    go_ret
    exact ⟨ret_i (by grind [chkA, okB]), (by repeat (first | (with_reducible exact Below.refl _ _) | (with_reducible assumption) | (with_reducible refine bthen (by with_reducible assumption) ?_) | (with_reducible refine balloc _ ?_) | (with_reducible refine bdrewN _ ?_) | (with_reducible refine bdrew ?_) | (with_reducible refine bset (by first | exact Nat.le_refl _ | (dsimp only; omega)) ?_)))⟩
theorem checkA_any (op : Int) (d n m imm : Int) (w : World) (hS : Shapes w) :
    Calls Tryd.prog 19 #[.agg #[.int .i8 op, .int .i8 d, .int .i8 n, .int .i8 m, .int .i64 imm]] w fun e w' => e = .returned (.int .i64 (chkA op d n m imm)) ∧ Below w.heap.size w w' := by
  by_cases h : 0 ≤ op ∧ op ≤ 18
  · obtain ⟨k, rfl⟩ := Int.eq_ofNat_of_zero_le h.1
    exact checkA_in k d n m imm w (by omega) hS
  · exact checkA_out op d n m imm w h
end Go.Proofs.YtailocbophkmmaaDoor
