/-
  Package isa: Text of one instruction; three words wake.
-/
import Derived.Test.YtailocbophkmmaaDoorIsaDec3
import Derived.Test.YtailocbophkmmaaDoorHex
namespace Go.Proofs.YtailocbophkmmaaDoor
open Go.RowKit FP

theorem fmt_5 (w : World) :
    Calls Tryd.prog 37 #[.int .i64 5, .int .i64 10] w fun e w' => e = .returned (.string ⟨#[53]⟩) ∧ Below w.heap.size w w' := by
  go_enter Tryd.func37, Tryd.ntmps37
  go_wp2
  go_ret
  exact ⟨rfl, (by repeat (first | (with_reducible exact Below.refl _ _) | (with_reducible assumption) | (with_reducible refine bthen (by with_reducible assumption) ?_) | (with_reducible refine balloc _ ?_) | (with_reducible refine bdrewN _ ?_) | (with_reducible refine bdrew ?_) | (with_reducible refine bset (by first | exact Nat.le_refl _ | (dsimp only; omega)) ?_)))⟩
theorem itoa_3 (w : World) :
    Calls Tryd.prog 27 #[.int .i64 3] w fun e w' => e = .returned (.string ⟨#[51]⟩) ∧ Below w.heap.size w w' := itoa_1 3 w (by omega) (by omega)
theorem x_3 (w : World) :
    Calls Tryd.prog 36 #[.int .i8 3] w fun e w' => e = .returned (.string ⟨#[120, 51]⟩) ∧ Below w.heap.size w w' := by
  go_enter Tryd.func36, Tryd.ntmps36
  go_wp2_with (go_at_call 27; (with_reducible refine (itoa_3 _).mono ?_); rintro e w' ⟨rfl, hb⟩; obtain ⟨hz, hc, hf⟩ := bcell hb; (try simp only [World.size_alloc, World.size_drew, World.heap_drewN, World.size_setCell] at hz); (try have hs0 : w.heap.size < w'.heap.size := by omega); (try have hs1 : w.heap.size + 1 < w'.heap.size := by omega); (try have hs2 : w.heap.size + 2 < w'.heap.size := by omega))
  go_ret
  exact ⟨rfl, (by repeat (first | (with_reducible exact Below.refl _ _) | (with_reducible assumption) | (with_reducible refine bthen (by with_reducible assumption) ?_) | (with_reducible refine balloc _ ?_) | (with_reducible refine bdrewN _ ?_) | (with_reducible refine bdrew ?_) | (with_reducible refine bset (by first | exact Nat.le_refl _ | (dsimp only; omega)) ?_)))⟩
/-- The name of mov. -/
def NameMov (w : World) : Prop := w.cell? ⟨2, 1, none⟩ = some (.string ⟨#[109, 111, 118]⟩)
theorem NameMov.below {w w' : World} (h : NameMov w) (hb : Below w.heap.size w w') : NameMov w' := (hb.cell (p := ⟨_, _, none⟩) (World.block_lt_of_cell? w _ h)).trans h
theorem ok_35 : okB 1 3 0 0 5 = true := by decide
set_option maxHeartbeats 1000000 in
theorem text_35 (w : World) (hS : Shapes w) (hN : NameMov w) :
    Calls Tryd.prog 17 #[.agg #[.int .i8 1, .int .i8 3, .int .i8 0, .int .i8 0, .int .i64 5]] w fun e w' => e = .returned (.string ⟨#[109, 111, 118, 32, 120, 51, 44, 53]⟩) ∧ Below w.heap.size w w' := by
  have HT := Lib.hid (chkA_t ok_35)
  have hn : w.cell? ⟨2, 1, none⟩ = some (.string ⟨#[109, 111, 118]⟩) := hN
  have hgl : 2 < w.heap.size := World.block_lt_of_cell? w _ hN
  have hgl1 : 2 < w.heap.size + 1 := by omega
  clear hN
  go_enter Tryd.func17, Tryd.ntmps17
  go_wp2_with (first | ((go_at_call 19; (with_reducible refine (checkA_any 1 3 0 0 5 _ (hS.below (by repeat (first | (with_reducible exact Below.refl _ _) | (with_reducible assumption) | (with_reducible refine bthen (by with_reducible assumption) ?_) | (with_reducible refine balloc _ ?_) | (with_reducible refine bdrewN _ ?_) | (with_reducible refine bdrew ?_) | (with_reducible refine bset (by first | exact Nat.le_refl _ | (dsimp only; omega)) ?_))))).mono ?_); rintro e w' ⟨rfl, hb⟩; rw [HT.out]; obtain ⟨hz, hc, hf⟩ := bcell hb; (try simp only [World.size_alloc, World.size_drew, World.heap_drewN, World.size_setCell] at hz); (try have hs0 : w.heap.size < w'.heap.size := by omega); (try have hs1 : w.heap.size + 1 < w'.heap.size := by omega); (try have hs2 : w.heap.size + 2 < w'.heap.size := by omega)); have hgl2 : 2 < w'.heap.size := (by omega)) | ((go_at_call 37; (with_reducible refine (fmt_5 _).mono ?_); rintro e w' ⟨rfl, hb⟩; obtain ⟨hz, hc, hf⟩ := bcell hb; (try simp only [World.size_alloc, World.size_drew, World.heap_drewN, World.size_setCell] at hz); (try have hs0 : w.heap.size < w'.heap.size := by omega); (try have hs1 : w.heap.size + 1 < w'.heap.size := by omega); (try have hs2 : w.heap.size + 2 < w'.heap.size := by omega)); have hgl2 : 2 < w'.heap.size := (by omega)) | (go_at_call 36; (with_reducible refine (x_3 _).mono ?_); rintro e w' ⟨rfl, hb⟩; obtain ⟨hz, hc, hf⟩ := bcell hb; (try simp only [World.size_alloc, World.size_drew, World.heap_drewN, World.size_setCell] at hz); (try have hs0 : w.heap.size < w'.heap.size := by omega); (try have hs1 : w.heap.size + 1 < w'.heap.size := by omega); (try have hs2 : w.heap.size + 2 < w'.heap.size := by omega)))
  go_ret
  exact ⟨rfl, (by repeat (first | (with_reducible exact Below.refl _ _) | (with_reducible assumption) | (with_reducible refine bthen (by with_reducible assumption) ?_) | (with_reducible refine balloc _ ?_) | (with_reducible refine bdrewN _ ?_) | (with_reducible refine bdrew ?_) | (with_reducible refine bset (by first | exact Nat.le_refl _ | (dsimp only; omega)) ?_)))⟩
end Go.Proofs.YtailocbophkmmaaDoor
