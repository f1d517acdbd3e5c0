/-
  The document's answer for layers 6 and 7: Check, Encode.
-/
import Derived.Test.YtailocbophkmmaaDoorIsaEnc2
namespace Go.Proofs.YtailocbophkmmaaDoor
open Go.RowKit FP

theorem refreg_any (k : Int) (has : Bool) (w : World) :
    Calls Tryd.prog 56 #[.int .i8 k, .bool has] w fun e w' => e = .returned (.bool (regB k has)) ∧ Below w.heap.size w w' := by
  cases has
  all_goals
    go_enter Tryd.func56, Tryd.ntmps56
    go_wp2
    all_goals
      go_ret
      exact ⟨ret_bool (by grind [regB]), (by repeat (first | (with_reducible exact Below.refl _ _) | (with_reducible assumption) | (with_reducible refine bthen (by with_reducible assumption) ?_) | (with_reducible refine balloc _ ?_) | (with_reducible refine bdrewN _ ?_) | (with_reducible refine bdrew ?_) | (with_reducible refine bset (by first | exact Nat.le_refl _ | (dsimp only; omega)) ?_)))⟩
theorem k_cases {k : Nat} (h : k < 19) : k = 0 ∨ k = 1 ∨ k = 2 ∨ k = 3 ∨ k = 4 ∨ k = 5 ∨ k = 6 ∨ k = 7 ∨ k = 8 ∨ k = 9 ∨ k = 10 ∨ k = 11 ∨ k = 12 ∨ k = 13 ∨ k = 14 ∨ k = 15 ∨ k = 16 ∨ k = 17 ∨ k = 18 := by omega
theorem refhas_in (k : Nat) (w : World) (hk : k < 19) :
    Calls Tryd.prog 55 #[.int .i8 k] w fun e w' => e = .returned (.tuple #[.bool (hasD k), .bool (hasN k), .bool (hasM k), .int .i64 (leastI k), .int .i64 (mostI k), .bool true]) ∧ Below w.heap.size w w' := by
  rcases k_cases hk with rfl | rfl | rfl | rfl | rfl | rfl | rfl | rfl | rfl | rfl | rfl | rfl | rfl | rfl | rfl | rfl | rfl | rfl | rfl
  all_goals
    go_enter Tryd.func55, Tryd.ntmps55
    go_wp2
    refine bodyPost_ret (v := .tuple #[.bool _, .bool _, .bool _, .int .i64 _, .int .i64 _, .bool _]) (by simp [results, Tryd.results55, go_sem]; exact ⟨rfl, rfl, rfl, rfl, rfl, rfl⟩) rfl ⟨?_, (by repeat (first | (with_reducible exact Below.refl _ _) | (with_reducible assumption) | (with_reducible refine bthen (by with_reducible assumption) ?_) | (with_reducible refine balloc _ ?_) | (with_reducible refine bdrewN _ ?_) | (with_reducible refine bdrew ?_) | (with_reducible refine bset (by first | exact Nat.le_refl _ | (dsimp only; omega)) ?_)))⟩
    rfl
theorem refhas_out (op : Int) (w : World) (hk : ¬ (0 ≤ op ∧ op ≤ 18)) :
    Calls Tryd.prog 55 #[.int .i8 op] w fun e w' => e = .returned (.tuple #[.bool false, .bool false, .bool false, .int .i64 0, .int .i64 0, .bool false]) ∧ Below w.heap.size w w' := by
  rcases (by omega : op < 0 ∨ 18 < op) with h | h
  all_goals
    clear hk
    go_enter Tryd.func55, Tryd.ntmps55
    go_wp2
    exact bodyPost_ret (v := .tuple #[.bool false, .bool false, .bool false, .int .i64 0, .int .i64 0, .bool false]) (by simp [results, Tryd.results55, go_sem]) rfl ⟨rfl, (by repeat (first | (with_reducible exact Below.refl _ _) | (with_reducible assumption) | (with_reducible refine bthen (by with_reducible assumption) ?_) | (with_reducible refine balloc _ ?_) | (with_reducible refine bdrewN _ ?_) | (with_reducible refine bdrew ?_) | (with_reducible refine bset (by first | exact Nat.le_refl _ | (dsimp only; omega)) ?_)))⟩
set_option maxHeartbeats 1000000 in
theorem refchk_in (k : Nat) (d n m imm : Int) (w : World) (hk : k < 19) :
    Calls Tryd.prog 34 #[.agg #[.int .i8 k, .int .i8 d, .int .i8 n, .int .i8 m, .int .i64 imm]] w fun e w' => e = .returned (.int .i64 (chkA k d n m imm)) ∧ Below w.heap.size w w' := by
  go_enter Tryd.func34, Tryd.ntmps34
  go_wp2_with (first | (go_at_call 55; (with_reducible refine (refhas_in k _ hk).mono ?_); rintro e w' ⟨rfl, hb⟩; obtain ⟨hz, hc, hf⟩ := bcell hb; (try simp only [World.size_alloc, World.size_drew, World.heap_drewN, World.size_setCell] at hz); (try have hs0 : w.heap.size < w'.heap.size := by omega); (try have hs1 : w.heap.size + 1 < w'.heap.size := by omega); (try have hs2 : w.heap.size + 2 < w'.heap.size := by omega)) | (go_at_call 56; (with_reducible refine (refreg_any _ _ _).mono ?_); rintro e w' ⟨rfl, hb⟩; obtain ⟨hz, hc, hf⟩ := bcell hb; (try simp only [World.size_alloc, World.size_drew, World.heap_drewN, World.size_setCell] at hz); (try have hs0 : w.heap.size < w'.heap.size := by omega); (try have hs1 : w.heap.size + 1 < w'.heap.size := by omega); (try have hs2 : w.heap.size + 2 < w'.heap.size := by omega)))
  all_goals
    go_ret
    exact ⟨ret_i (by grind [chkA, okB]), (by repeat (first | (with_reducible exact Below.refl _ _) | (with_reducible assumption) | (with_reducible refine bthen (by with_reducible assumption) ?_) | (with_reducible refine balloc _ ?_) | (with_reducible refine bdrewN _ ?_) | (with_reducible refine bdrew ?_) | (with_reducible refine bset (by first | exact Nat.le_refl _ | (dsimp only; omega)) ?_)))⟩
theorem refchk_any (op d n m imm : Int) (w : World) :
    Calls Tryd.prog 34 #[.agg #[.int .i8 op, .int .i8 d, .int .i8 n, .int .i8 m, .int .i64 imm]] w fun e w' => e = .returned (.int .i64 (chkA op d n m imm)) ∧ Below w.heap.size w w' := by
  by_cases h : 0 ≤ op ∧ op ≤ 18
  · obtain ⟨k, rfl⟩ := Int.eq_ofNat_of_zero_le h.1
    exact refchk_in k d n m imm w (by omega)
  · have HC : Hid (chkA op d n m imm = 60) := Lib.hid (by simp [chkA, okB, h])
    go_enter Tryd.func34, Tryd.ntmps34
    go_wp2_with (go_at_call 55; (with_reducible refine (refhas_out op _ h).mono ?_); rintro e w' ⟨rfl, hb⟩; obtain ⟨hz, hc, hf⟩ := bcell hb; (try simp only [World.size_alloc, World.size_drew, World.heap_drewN, World.size_setCell] at hz); (try have hs0 : w.heap.size < w'.heap.size := by omega); (try have hs1 : w.heap.size + 1 < w'.heap.size := by omega); (try have hs2 : w.heap.size + 2 < w'.heap.size := by omega))
    go_ret
    exact ⟨ret_i HC.out.symm, (by repeat (first | (with_reducible exact Below.refl _ _) | (with_reducible assumption) | (with_reducible refine bthen (by with_reducible assumption) ?_) | (with_reducible refine balloc _ ?_) | (with_reducible refine bdrewN _ ?_) | (with_reducible refine bdrew ?_) | (with_reducible refine bset (by first | exact Nat.le_refl _ | (dsimp only; omega)) ?_)))⟩
theorem ret_u32 {a b : Int} (h : a = b) : Ending.returned (.int .u32 a) = .returned (.int .u32 b) := by rw [h]
theorem refbase_in (k : Nat) (w : World) (hk : k < 19) :
    Calls Tryd.prog 35 #[.int .i8 k] w fun e w' => e = .returned (.int .u32 (wordI k)) ∧ Below w.heap.size w w' := by
  rcases k_cases hk with rfl | rfl | rfl | rfl | rfl | rfl | rfl | rfl | rfl | rfl | rfl | rfl | rfl | rfl | rfl | rfl | rfl | rfl | rfl
  all_goals
    go_enter Tryd.func35, Tryd.ntmps35
    go_wp2
    go_ret
    exact ⟨rfl, (by repeat (first | (with_reducible exact Below.refl _ _) | (with_reducible assumption) | (with_reducible refine bthen (by with_reducible assumption) ?_) | (with_reducible refine balloc _ ?_) | (with_reducible refine bdrewN _ ?_) | (with_reducible refine bdrew ?_) | (with_reducible refine bset (by first | exact Nat.le_refl _ | (dsimp only; omega)) ?_)))⟩
end Go.Proofs.YtailocbophkmmaaDoor
