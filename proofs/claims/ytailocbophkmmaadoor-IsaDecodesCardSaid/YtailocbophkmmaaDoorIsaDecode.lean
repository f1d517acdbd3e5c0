/-
  Package isa: Decode.
-/
import Derived.Test.YtailocbophkmmaaDoorIsaOnce
import Derived.Test.YtailocbophkmmaaDoorIsaEnc2
import Derived.Test.YtailocbophkmmaaDoorIsaMask
namespace Go.Proofs.YtailocbophkmmaaDoor
open Go.RowKit FP

theorem neg_in (x : Int) : IntKind.i64.wrap (-(x / 1024 % 4096)) = -(x / 1024 % 4096) := by rw [IntKind.wrap_i64]; omega
set_option maxHeartbeats 1000000 in
theorem reader8 (x : Int) (q r : Nat) (w : World) (h0 : 0 ≤ x) (h1 : x < 18446744073709551616) (hr : w.cell? ⟨r, 0, none⟩ = some (rdV 7 q)) (hq : w.cell? ⟨q, 0, none⟩ = some (.int .i8 7)) :
    Calls Tryd.prog 52 #[.int .u64 x, .pointer (some ⟨r, 0, none⟩)] w fun e w' => e = .returned (.agg #[.int .i8 7, .int .i8 (fldI x 0), .int .i8 (fldI x 5), .int .i8 0, .int .i64 (-(x / 1024 % 4096))]) ∧ Below w.heap.size w w' := by
  have hql : q < w.heap.size := World.block_lt_of_cell? w _ hq
  have hrl : r < w.heap.size := World.block_lt_of_cell? w _ hr
  have hr' : w.cell? ⟨r, 0, none⟩ = some (.func (.func 68) #[] #[.pointer (some ⟨q, 0, none⟩)]) := hr
  have HN := neg_in x
  clear hr
  go_enter Tryd.func52, Tryd.ntmps52
  go_wp2_with (go_at_call 68; (with_reducible refine (reader3 7 x q _ h0 h1 (s_cell hql hq)).mono ?_); rintro e w' ⟨rfl, hb⟩; obtain ⟨hz, hc, hf⟩ := bcell hb; (try simp only [World.size_alloc, World.size_drew, World.heap_drewN, World.size_setCell] at hz); (try have hs0 : w.heap.size < w'.heap.size := by omega); (try have hs1 : w.heap.size + 1 < w'.heap.size := by omega); (try have hs2 : w.heap.size + 2 < w'.heap.size := by omega))
  exact bodyPost_ret (v := .agg #[.int .i8 7, .int .i8 (fldI x 0), .int .i8 (fldI x 5), .int .i8 0, .int .i64 (-(x / 1024 % 4096))]) (by simp [results, Tryd.results52, go_sem, *]) rfl ⟨rfl, (by repeat (first | (with_reducible exact Below.refl _ _) | (with_reducible assumption) | (with_reducible refine bthen (by with_reducible assumption) ?_) | (with_reducible refine balloc _ ?_) | (with_reducible refine bdrewN _ ?_) | (with_reducible refine bdrew ?_) | (with_reducible refine bset (by first | exact Nat.le_refl _ | (dsimp only; omega)) ?_)))⟩
/-- Imm as row j reads it. -/
def rowImm (j : Nat) (x : Int) : Int := if j = 18 then -(x / 1024 % 4096) else if j = 7 then x / 1024 % 4096 else immOf j x
def rowOp (j : Nat) : Nat := if j = 18 then 7 else j
/-- What row j reads. -/
def rowV (j : Nat) (x : Int) : Value := .agg #[.int .i8 (rowOp j), .int .i8 (dOf (rowOp j) x), .int .i8 (nOf (rowOp j) x), .int .i8 (mOf (rowOp j) x), .int .i64 (rowImm j x)]
set_option maxHeartbeats 1000000 in
theorem row_read (j : Nat) (hj : j < 18) (x : Int) (q : Nat) (w : World) (h0 : 0 ≤ x) (h1 : x < 18446744073709551616) (hq : w.cell? ⟨q, 0, none⟩ = some (.int .i8 j)) :
    Calls Tryd.prog (readF j) #[.int .u64 x, .pointer (some ⟨q, 0, none⟩)] w fun e w' => e = .returned (rowV j x) ∧ Below w.heap.size w w' := by
  obtain rfl | rfl | rfl | rfl | rfl | rfl | rfl | rfl | rfl | rfl | rfl | rfl | rfl | rfl | rfl | rfl | rfl | rfl : j = 0 ∨ j = 1 ∨ j = 2 ∨ j = 3 ∨ j = 4 ∨ j = 5 ∨ j = 6 ∨ j = 7 ∨ j = 8 ∨ j = 9 ∨ j = 10 ∨ j = 11 ∨ j = 12 ∨ j = 13 ∨ j = 14 ∨ j = 15 ∨ j = 16 ∨ j = 17 := by omega
  · exact reader7 _ x q w h0 h1 hq
  · exact reader1 _ x q w h0 h1 hq
  · exact reader2 _ x q w h0 h1 hq
  · exact reader2 _ x q w h0 h1 hq
  · exact reader2 _ x q w h0 h1 hq
  · exact reader2 _ x q w h0 h1 hq
  · exact reader2 _ x q w h0 h1 hq
  · exact reader3 _ x q w h0 h1 hq
  · exact reader4 _ x q w h0 h1 hq
  · exact reader4 _ x q w h0 h1 hq
  · exact reader4 _ x q w h0 h1 hq
  · exact reader2 _ x q w h0 h1 hq
  · exact reader4 _ x q w h0 h1 hq
  · exact reader7 _ x q w h0 h1 hq
  · exact reader5 _ x q w h0 h1 hq
  · exact reader6 _ x q w h0 h1 hq
  · exact reader6 _ x q w h0 h1 hq
  · exact reader7 _ x q w h0 h1 hq
def rowMask (j : Nat) : Int := if j = 18 then maskI 7 else maskI j
def rowWord (j : Nat) : Int := if j = 18 then 3506438144 else wordI j
/-- A function that reads the fields as row j does, wherever the old stands. -/
def ReadsRow (W : World) (j F c : Nat) : Prop :=
  (∀ args w, (callFunc F args).run Tryd.prog w = .ok (.enter F args) w) ∧ ∀ W' x, Below W.heap.size W W' → 0 ≤ x → x < 18446744073709551616 →
    Calls Tryd.prog F #[.int .u64 x, .pointer (some ⟨c, 0, none⟩)] W' fun e w' => e = .returned (rowV j x) ∧ Below W'.heap.size W' w'
set_option maxRecDepth 100000 in
theorem readF_enter (j : Nat) (hj : j < 18) : ∀ args w, (callFunc (readF j) args).run Tryd.prog w = .ok (.enter (readF j) args) w := by
  obtain rfl | rfl | rfl | rfl | rfl | rfl | rfl | rfl | rfl | rfl | rfl | rfl | rfl | rfl | rfl | rfl | rfl | rfl : j = 0 ∨ j = 1 ∨ j = 2 ∨ j = 3 ∨ j = 4 ∨ j = 5 ∨ j = 6 ∨ j = 7 ∨ j = 8 ∨ j = 9 ∨ j = 10 ∨ j = 11 ∨ j = 12 ∨ j = 13 ∨ j = 14 ∨ j = 15 ∨ j = 16 ∨ j = 17 := by omega
  all_goals exact fun _ _ => by kernel_rfl
set_option maxRecDepth 100000 in
theorem row_fact {n0 : Nat} {w W : World} {b : Value} (hT : TableAt n0 w b W) : ∃ g cap, b = .slice (some ⟨g, 0, none⟩) 19 cap ∧ n0 ≤ g ∧ g < W.heap.size ∧ ∀ j, j < 19 →
    W.cell? ⟨g, 3 * j, none⟩ = some (.int .u32 (rowMask j)) ∧ W.cell? ⟨g, 3 * j + 1, none⟩ = some (.int .u32 (rowWord j)) ∧ ∃ F c, W.cell? ⟨g, 3 * j + 2, none⟩ = some (.func (.func F) #[] #[.pointer (some ⟨c, 0, none⟩)]) ∧ ReadsRow W j F c := by
  obtain ⟨-, -, p, xs, hp, hown, hrows⟩ := hT
  obtain ⟨g, cap, rfl, hg1, hg2⟩ := hown.form (by omega)
  refine ⟨g, cap, rfl, by omega, hg2, fun j hj => ?_⟩
  by_cases h18 : j = 18
  · subst h18
    obtain ⟨q, r, a, b, c, e, e2, -⟩ := (hrows 18 (by omega)).2 rfl
    refine ⟨(hown.cellAt _ (by omega)).trans a, (hown.cellAt _ (by omega)).trans b, _, r, (hown.cellAt _ (by omega)).trans c, fun _ _ => by kernel_rfl, fun W' x hb h0 h1 => ?_⟩
    exact reader8 x q r W' h0 h1 ((hb.cell (p := ⟨r, 0, none⟩) (World.block_lt_of_cell? W _ e)).trans e) ((hb.cell (p := ⟨q, 0, none⟩) (World.block_lt_of_cell? W _ e2)).trans e2)
  · obtain ⟨q, a, b, c, e, -⟩ := (hrows j (by omega)).1 (by omega)
    have em : rowMask j = maskI j := if_neg h18
    have ew : rowWord j = wordI j := if_neg h18
    rw [em, ew]
    refine ⟨(hown.cellAt _ (by omega)).trans a, (hown.cellAt _ (by omega)).trans b, readF j, q, (hown.cellAt _ (by omega)).trans c, readF_enter j (by omega), fun W' x hb h0 h1 => ?_⟩
    exact row_read j (by omega) x q W' h0 h1 ((hb.cell (p := ⟨q, 0, none⟩) (World.block_lt_of_cell? W _ e)).trans e)
end Go.Proofs.YtailocbophkmmaaDoor
