/-
  The law IsaEncodes: its walk.
-/
import Derived.Test.YtailocbophkmmaaDoorIsaText
import Derived.Test.YtailocbophkmmaaDoorRefEnc2
import Derived.Test.YtailocbophkmmaaDoorIsaWakes
namespace Go.Proofs.YtailocbophkmmaaDoor
open Go.RowKit FP

/-- The text of an instruction. -/
def textV (op d n m imm : Int) : List UInt8 := if okB op d n m imm then textL op.toNat d n m imm else [98, 97, 100]
theorem textI_any (op d n m imm : Int) (w : World) (hS : Shapes w) (hN : Names w) (hP : Pow10 w) :
    Calls Tryd.prog 17 #[.agg #[.int .i8 op, .int .i8 d, .int .i8 n, .int .i8 m, .int .i64 imm]] w fun e w' => e = .returned (.string ⟨(textV op d n m imm).toArray⟩) ∧ Below w.heap.size w w' := by
  by_cases h : okB op d n m imm = true
  · have h0 := (okB_cases h).1
    obtain ⟨k, rfl⟩ := Int.eq_ofNat_of_zero_le h0.1
    rw [textV, if_pos h]
    exact text_in k d n m imm w h hS hN hP
  · have HC := Lib.hid (chkA_f (by simpa using h))
    have HS := Lib.hid hS
    rw [textV, if_neg h]
    clear h hS hN hP
    go_enter Tryd.func17, Tryd.ntmps17
    go_wp2_with (go_at_call 19; (with_reducible refine (checkA_any op d n m imm _ (HS.out.below (by repeat (first | (with_reducible exact Below.refl _ _) | (with_reducible assumption) | (with_reducible refine bthen (by with_reducible assumption) ?_) | (with_reducible refine balloc _ ?_) | (with_reducible refine bdrewN _ ?_) | (with_reducible refine bdrew ?_) | (with_reducible refine bset (by first | exact Nat.le_refl _ | (dsimp only; omega)) ?_))))).mono ?_); rintro e w' ⟨rfl, hb⟩; rw [HC.out]; obtain ⟨hz, hc, hf⟩ := bcell hb; (try simp only [World.size_alloc] at hz); (try simp only [World.size_setCell] at hz); (try simp only [World.size_drew] at hz); (try simp only [World.heap_drewN] at hz); (try have hs0 : w.heap.size < w'.heap.size := by omega); (try have hs1 : w.heap.size + 1 < w'.heap.size := by omega); (try have hs2 : w.heap.size + 2 < w'.heap.size := by omega))
    go_ret
    exact ⟨rfl, (by repeat (first | (with_reducible exact Below.refl _ _) | (with_reducible assumption) | (with_reducible refine bthen (by with_reducible assumption) ?_) | (with_reducible refine balloc _ ?_) | (with_reducible refine bdrewN _ ?_) | (with_reducible refine bdrew ?_) | (with_reducible refine bset (by first | exact Nat.le_refl _ | (dsimp only; omega)) ?_)))⟩
theorem textR_any (op d n m imm : Int) (w : World) :
    Calls Tryd.prog 18 #[.agg #[.int .i8 op, .int .i8 d, .int .i8 n, .int .i8 m, .int .i64 imm]] w fun e w' => e = .returned (.string ⟨(textV op d n m imm).toArray⟩) ∧ Below w.heap.size w w' := by
  by_cases h : okB op d n m imm = true
  · have h0 := (okB_cases h).1
    have bi := okB_imm h
    have hb := okB_cases h
    obtain ⟨k, rfl⟩ := Int.eq_ofNat_of_zero_le h0.1
    rw [textV, if_pos h]
    exact reftext_in k d n m imm w h (by omega) (by omega) (by omega) (by omega)
  · have HC := Lib.hid (chkA_f (by simpa using h))
    rw [textV, if_neg h]
    clear h
    go_enter Tryd.func18, Tryd.ntmps18
    go_wp2_with (go_at_call 34; (with_reducible refine (refchk_any op d n m imm _).mono ?_); rintro e w' ⟨rfl, hb⟩; rw [HC.out]; obtain ⟨hz, hc, hf⟩ := bcell hb; (try simp only [World.size_alloc] at hz); (try simp only [World.size_setCell] at hz); (try simp only [World.size_drew] at hz); (try simp only [World.heap_drewN] at hz); (try have hs0 : w.heap.size < w'.heap.size := by omega); (try have hs1 : w.heap.size + 1 < w'.heap.size := by omega); (try have hs2 : w.heap.size + 2 < w'.heap.size := by omega))
    go_ret
    exact ⟨rfl, (by repeat (first | (with_reducible exact Below.refl _ _) | (with_reducible assumption) | (with_reducible refine bthen (by with_reducible assumption) ?_) | (with_reducible refine balloc _ ?_) | (with_reducible refine bdrewN _ ?_) | (with_reducible refine bdrew ?_) | (with_reducible refine bset (by first | exact Nat.le_refl _ | (dsimp only; omega)) ?_)))⟩
set_option maxRecDepth 100000 in
set_option maxHeartbeats 4000000 in
theorem encodes_any (op d n m imm : Int) (w : World) (hi0 : -9223372036854775808 ≤ imm) (hi1 : imm ≤ 9223372036854775807) (hS : Shapes w) (hW : Words w) (hM : Masks w) (hN : Names w) (hP : Pow10 w) :
    Calls Tryd.prog 5 #[.agg #[.int .i8 op, .int .i8 d, .int .i8 n, .int .i8 m, .int .i64 imm]] w fun e w' => e = .returned (.bool true) ∧ Below w.heap.size w w' := by
  have HS := Lib.hid hS
  have HW := Lib.hid hW
  have HM := Lib.hid hM
  have HN := Lib.hid hN
  have HP := Lib.hid hP
  obtain ⟨u, f, hV⟩ : ∃ u f : Int, encV op d n m imm = .tuple #[.int .u32 u, .int .i64 f] := by
    unfold encV; split
    · exact ⟨_, _, rfl⟩
    · exact ⟨_, _, rfl⟩
  have HV := Lib.hid hV
  clear hS hW hM hN hP hV
  go_enter Tryd.func5, Tryd.ntmps5
  go_wp2_with (first | (go_at_call 15; (with_reducible refine (encodeI_any op d n m imm _ (HS.out.below (by repeat (first | (with_reducible exact Below.refl _ _) | (with_reducible assumption) | (with_reducible refine bthen (by with_reducible assumption) ?_) | (with_reducible refine balloc _ ?_) | (with_reducible refine bdrewN _ ?_) | (with_reducible refine bdrew ?_) | (with_reducible refine bset (by first | exact Nat.le_refl _ | (dsimp only; omega)) ?_)))) (HW.out.below (by repeat (first | (with_reducible exact Below.refl _ _) | (with_reducible assumption) | (with_reducible refine bthen (by with_reducible assumption) ?_) | (with_reducible refine balloc _ ?_) | (with_reducible refine bdrewN _ ?_) | (with_reducible refine bdrew ?_) | (with_reducible refine bset (by first | exact Nat.le_refl _ | (dsimp only; omega)) ?_)))) hi0 hi1).mono ?_); rintro e w' ⟨rfl, hb⟩; rw [HV.out]; obtain ⟨hz, hc, hf⟩ := bcell hb; (try simp only [World.size_alloc] at hz); (try simp only [World.size_setCell] at hz); (try simp only [World.size_drew] at hz); (try simp only [World.heap_drewN] at hz); (try have hs0 : w.heap.size < w'.heap.size := by omega); (try have hs1 : w.heap.size + 1 < w'.heap.size := by omega); (try have hs2 : w.heap.size + 2 < w'.heap.size := by omega)) | (go_at_call 16; (with_reducible refine (encodeR_any op d n m imm _).mono ?_); rintro e w' ⟨rfl, hb⟩; rw [HV.out]; obtain ⟨hz, hc, hf⟩ := bcell hb; (try simp only [World.size_alloc] at hz); (try simp only [World.size_setCell] at hz); (try simp only [World.size_drew] at hz); (try simp only [World.heap_drewN] at hz); (try have hs0 : w.heap.size < w'.heap.size := by omega); (try have hs1 : w.heap.size + 1 < w'.heap.size := by omega); (try have hs2 : w.heap.size + 2 < w'.heap.size := by omega)))
  (refine region_intro fun W hW => ?_; have hWs0 : w.heap.size ≤ W.heap.size := (by rw [← hW]; (try simp only [World.size_alloc, World.size_drew, World.heap_drewN, World.size_setCell]); omega); have hWB : Hid (Below w.heap.size w W) := Lib.hid (by rw [← hW]; clear hW; exact (by repeat (first | (with_reducible exact Below.refl _ _) | (with_reducible assumption) | (with_reducible refine bthen (by with_reducible assumption) ?_) | (with_reducible refine balloc _ ?_) | (with_reducible refine bdrewN _ ?_) | (with_reducible refine bdrew ?_) | (with_reducible refine bset (by first | exact Nat.le_refl _ | (dsimp only; omega)) ?_)))); have hWb1 : w.heap.size < W.heap.size := (by rw [← hW]; (try simp only [World.size_alloc, World.size_drew, World.heap_drewN, World.size_setCell]); omega); have hWc0 : W.cell? ⟨w.heap.size, 0, none⟩ = some (.int .i8 op) := (by rw [← hW]; clear hW; go_simp); have hWc1 : W.cell? ⟨w.heap.size, 1, none⟩ = some (.int .i8 d) := (by rw [← hW]; clear hW; go_simp); have hWc2 : W.cell? ⟨w.heap.size, 2, none⟩ = some (.int .i8 n) := (by rw [← hW]; clear hW; go_simp); have hWc3 : W.cell? ⟨w.heap.size, 3, none⟩ = some (.int .i8 m) := (by rw [← hW]; clear hW; go_simp); have hWc4 : W.cell? ⟨w.heap.size, 4, none⟩ = some (.int .i64 imm) := (by rw [← hW]; clear hW; go_simp); clear hW; have hrg := @regrown_cells W; refine wp_region_quiet_below (by kernel_rfl) (by kernel_rfl) ?_; (repeat (go_big_quiet_step (first | (go_at_call 17; refine Calls.regrown_of (textI_any op d n m imm _ ?_ ?_ ?_) <;> (first | exact HS.out.below (hWB.out.trans ((below_regrown _ _ _).mono hWB.out.size)) | exact HN.out.below (hWB.out.trans ((below_regrown _ _ _).mono hWB.out.size)) | exact HP.out.below (hWB.out.trans ((below_regrown _ _ _).mono hWB.out.size)))) | (go_at_call 18; refine Calls.regrown_of (textR_any op d n m imm _)) | (go_at_call 14; refine Calls.regrown_of (wakes_any _ ?_ ?_ ?_ ?_) <;> (first | exact HS.out.below (hWB.out.trans ((below_regrown _ _ _).mono hWB.out.size)) | exact HW.out.below (hWB.out.trans ((below_regrown _ _ _).mono hWB.out.size)) | exact HM.out.below (hWB.out.trans ((below_regrown _ _ _).mono hWB.out.size)) | exact HN.out.mov.below (hWB.out.trans ((below_regrown _ _ _).mono hWB.out.size))))))); refine wpQuiet_nil ?_; clear hrg; intro W' hW'; have hb := regrown_below hW'; clear hW'; obtain ⟨hz, hc, hf⟩ := bcell hb)
  have hWo := hWB.out
  go_wp2
  go_ret
  exact ⟨rfl, (by repeat (first | (with_reducible exact Below.refl _ _) | (with_reducible assumption) | (with_reducible refine bthen (by with_reducible assumption) ?_) | (with_reducible refine balloc _ ?_) | (with_reducible refine bdrewN _ ?_) | (with_reducible refine bdrew ?_) | (with_reducible refine bset (by first | exact Nat.le_refl _ | (dsimp only; omega)) ?_)))⟩
end Go.Proofs.YtailocbophkmmaaDoor
