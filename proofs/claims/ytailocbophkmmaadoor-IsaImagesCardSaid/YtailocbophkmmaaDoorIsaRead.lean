/-
  Package isa: how the fields of words are read.
-/
import Derived.Test.YtailocbophkmmaaDoorAlu
import Derived.Test.YtailocbophkmmaaDoorField
namespace Go.Proofs.YtailocbophkmmaaDoor
open Go.RowKit FP

/-- The lowest hi + 1 bits as a number with a sign (p = 2^hi). -/
def sgnI (x p : Int) : Int := if x % (2 * p) < p then x % (2 * p) else x % (2 * p) - 2 * p
theorem sign_eq25 (x : Int) : wrap64 (IntKind.u64.wrap (x * 274877906944)) / 274877906944 = sgnI x 33554432 := by
  have hw : IntKind.u64.wrap (x * 274877906944) = (x * 274877906944) % 18446744073709551616 := by simp [IntKind.wrap, IntKind.bits, IntKind.signed]
  unfold wrap64 sgnI
  rw [hw]
  split <;> omega
theorem sign_eq18 (x : Int) : wrap64 (IntKind.u64.wrap (x * 35184372088832)) / 35184372088832 = sgnI x 262144 := by
  have hw : IntKind.u64.wrap (x * 35184372088832) = (x * 35184372088832) % 18446744073709551616 := by simp [IntKind.wrap, IntKind.bits, IntKind.signed]
  unfold wrap64 sgnI
  rw [hw]
  split <;> omega
theorem sign25 (x : Int) (w : World) (h0 : 0 ≤ x) (h1 : x < 18446744073709551616) :
    Calls Tryd.prog 71 #[.int .u64 x, .int .i64 25] w fun e w' => e = .returned (.int .i64 (sgnI x 33554432)) ∧ Below w.heap.size w w' := by
  go_enter Tryd.func71, Tryd.ntmps71
  go_wp2
  go_ret
  exact ⟨ret_i (sign_eq25 x), (by repeat (first | (with_reducible exact Below.refl _ _) | (with_reducible assumption) | (with_reducible refine bthen (by with_reducible assumption) ?_) | (with_reducible refine balloc _ ?_) | (with_reducible refine bdrewN _ ?_) | (with_reducible refine bdrew ?_) | (with_reducible refine bset (by first | exact Nat.le_refl _ | (dsimp only; omega)) ?_)))⟩
theorem sign18 (x : Int) (w : World) (h0 : 0 ≤ x) (h1 : x < 18446744073709551616) :
    Calls Tryd.prog 71 #[.int .u64 x, .int .i64 18] w fun e w' => e = .returned (.int .i64 (sgnI x 262144)) ∧ Below w.heap.size w w' := by
  go_enter Tryd.func71, Tryd.ntmps71
  go_wp2
  go_ret
  exact ⟨ret_i (sign_eq18 x), (by repeat (first | (with_reducible exact Below.refl _ _) | (with_reducible assumption) | (with_reducible refine bthen (by with_reducible assumption) ?_) | (with_reducible refine balloc _ ?_) | (with_reducible refine bdrewN _ ?_) | (with_reducible refine bdrew ?_) | (with_reducible refine bset (by first | exact Nat.le_refl _ | (dsimp only; omega)) ?_)))⟩

def fldI (x l : Int) : Int := x / 2 ^ l.toNat % 32
theorem fldI_bd (x l : Int) : 0 ≤ fldI x l ∧ fldI x l < 32 := by unfold fldI; omega
theorem get_fld (x l : Int) : getI x (l + 4) l = fldI x l := by
  have e : ((l + 4) - l + 1).toNat = 5 := by omega
  simp only [getI, fldI, e]; rfl
theorem ret_i8 {a b : Int} (h : a = b) : Ending.returned (.int .i8 a) = .returned (.int .i8 b) := by rw [h]
theorem isareg_any (x l : Int) (w : World) (h0 : 0 ≤ x) (h1 : x < 18446744073709551616) (l0 : 0 ≤ l) (l1 : l ≤ 59) :
    Calls Tryd.prog 66 #[.int .u64 x, .int .i64 l] w fun e w' => e = .returned (.int .i8 (fldI x l)) ∧ Below w.heap.size w w' := by
  obtain ⟨b0, b1⟩ := fldI_bd x l
  have HG := Lib.hid (get_fld x l)
  go_enter Tryd.func66, Tryd.ntmps66
  go_wp2_with (go_at_call 22; (with_reducible refine (get_any x (l + 4) l _ h0 h1 (by omega) (by omega) (by omega)).mono ?_); rintro e w' ⟨rfl, hb⟩; rw [HG.out]; obtain ⟨hz, hc, hf⟩ := bcell hb; (try simp only [World.size_alloc, World.size_drew, World.heap_drewN, World.size_setCell] at hz); (try have hs0 : w.heap.size < w'.heap.size := by omega); (try have hs1 : w.heap.size + 1 < w'.heap.size := by omega); (try have hs2 : w.heap.size + 2 < w'.heap.size := by omega))
  go_ret
  exact ⟨rfl, (by repeat (first | (with_reducible exact Below.refl _ _) | (with_reducible assumption) | (with_reducible refine bthen (by with_reducible assumption) ?_) | (with_reducible refine balloc _ ?_) | (with_reducible refine bdrewN _ ?_) | (with_reducible refine bdrew ?_) | (with_reducible refine bset (by first | exact Nat.le_refl _ | (dsimp only; omega)) ?_)))⟩
def kImm (x : Int) (k : Nat) : Int :=
  if k = 1 then x / 32 % 65536 else if k = 7 then x / 1024 % 4096 else if k = 14 then sgnI x 33554432 else sgnI (x / 32) 262144
theorem get_mov (x : Int) : IntKind.i64.wrap (getI x 20 5) = x / 32 % 65536 := by
  have e : getI x 20 5 = x / 32 % 65536 := rfl
  rw [e, IntKind.wrap_i64]; omega
theorem get_addi (x : Int) : IntKind.i64.wrap (getI x 21 10) = x / 1024 % 4096 := by
  have e : getI x 21 10 = x / 1024 % 4096 := rfl
  rw [e, IntKind.wrap_i64]; omega
theorem getmov (x : Int) (w : World) (h0 : 0 ≤ x) (h1 : x < 18446744073709551616) :
    Calls Tryd.prog 22 #[.int .u64 x, .int .i64 20, .int .i64 5] w fun e w' => e = .returned (.int .u64 (getI x 20 5)) ∧ Below w.heap.size w w' := get_any x 20 5 w h0 h1 (by omega) (by omega) (by omega)
theorem getaddi (x : Int) (w : World) (h0 : 0 ≤ x) (h1 : x < 18446744073709551616) :
    Calls Tryd.prog 22 #[.int .u64 x, .int .i64 21, .int .i64 10] w fun e w' => e = .returned (.int .u64 (getI x 21 10)) ∧ Below w.heap.size w w' := get_any x 21 10 w h0 h1 (by omega) (by omega) (by omega)
set_option maxHeartbeats 1000000 in
theorem reader1 (op x : Int) (q : Nat) (w : World) (h0 : 0 ≤ x) (h1 : x < 18446744073709551616) (hq : w.cell? ⟨q, 0, none⟩ = some (.int .i8 op)) :
    Calls Tryd.prog 65 #[.int .u64 x, .pointer (some ⟨q, 0, none⟩)] w fun e w' => e = .returned (.agg #[.int .i8 op, .int .i8 (fldI x 0), .int .i8 0, .int .i8 0, .int .i64 (x / 32 % 65536)]) ∧ Below w.heap.size w w' := by
  have hql : q < w.heap.size := World.block_lt_of_cell? w _ hq
  have HG := get_mov x
  go_enter Tryd.func65, Tryd.ntmps65
  go_wp2_with fail
  go_region_held3 (fun W => Below w.heap.size w W ∧ w.heap.size < W.heap.size ∧ q < W.heap.size ∧ W.cell? ⟨q, 0, none⟩ = some (.int .i8 op)) (refine ⟨(by repeat (first | (with_reducible exact Below.refl _ _) | (with_reducible assumption) | (with_reducible exact And.left (by with_reducible assumption)) | (with_reducible refine bthen (by with_reducible assumption) ?_) | (with_reducible refine balloc _ ?_) | (with_reducible refine bdrewN _ ?_) | (with_reducible refine bdrew ?_) | (with_reducible refine bset (by first | exact Nat.le_refl _ | (dsimp only; omega)) ?_))), ?_, ?_, ?_⟩ <;> first | omega | (go_simp; done) | (simp; omega)) (first | (go_at_call 66; (with_reducible refine (isareg_any _ _ _ ?_ ?_ ?_ ?_).mono ?_) <;> (first | exact h0 | exact h1 | omega | skip); rintro e w' ⟨rfl, hb⟩; obtain ⟨hz, hc, hf⟩ := bcell hb; (try simp only [World.size_alloc, World.size_drew, World.heap_drewN, World.size_setCell] at hz); (try have hs0 : w.heap.size < w'.heap.size := by omega); (try have hs1 : w.heap.size + 1 < w'.heap.size := by omega); (try have hs2 : w.heap.size + 2 < w'.heap.size := by omega)) | (go_at_call 22; (with_reducible refine (getmov _ _ ?_ ?_).mono ?_) <;> (first | exact h0 | exact h1 | omega | skip); rintro e w' ⟨rfl, hb⟩; obtain ⟨hz, hc, hf⟩ := bcell hb; (try simp only [World.size_alloc, World.size_drew, World.heap_drewN, World.size_setCell] at hz); (try have hs0 : w.heap.size < w'.heap.size := by omega); (try have hs1 : w.heap.size + 1 < w'.heap.size := by omega); (try have hs2 : w.heap.size + 2 < w'.heap.size := by omega)))
  go_wp2
  exact bodyPost_ret (v := .agg #[.int .i8 op, .int .i8 (fldI x 0), .int .i8 0, .int .i8 0, .int .i64 (x / 32 % 65536)]) (by simp [results, Tryd.results65, go_sem, *]) rfl ⟨rfl, (by repeat (first | (with_reducible exact Below.refl _ _) | (with_reducible assumption) | (with_reducible refine bthen (by with_reducible assumption) ?_) | (with_reducible refine balloc _ ?_) | (with_reducible refine bdrewN _ ?_) | (with_reducible refine bdrew ?_) | (with_reducible refine bset (by first | exact Nat.le_refl _ | (dsimp only; omega)) ?_)))⟩
set_option maxHeartbeats 1000000 in
theorem reader2 (op x : Int) (q : Nat) (w : World) (h0 : 0 ≤ x) (h1 : x < 18446744073709551616) (hq : w.cell? ⟨q, 0, none⟩ = some (.int .i8 op)) :
    Calls Tryd.prog 67 #[.int .u64 x, .pointer (some ⟨q, 0, none⟩)] w fun e w' => e = .returned (.agg #[.int .i8 op, .int .i8 (fldI x 0), .int .i8 (fldI x 5), .int .i8 (fldI x 16), .int .i64 0]) ∧ Below w.heap.size w w' := by
  have hql : q < w.heap.size := World.block_lt_of_cell? w _ hq
  go_enter Tryd.func67, Tryd.ntmps67
  go_wp2_with fail
  go_region_held3 (fun W => Below w.heap.size w W ∧ w.heap.size < W.heap.size ∧ q < W.heap.size ∧ W.cell? ⟨q, 0, none⟩ = some (.int .i8 op)) (refine ⟨(by repeat (first | (with_reducible exact Below.refl _ _) | (with_reducible assumption) | (with_reducible exact And.left (by with_reducible assumption)) | (with_reducible refine bthen (by with_reducible assumption) ?_) | (with_reducible refine balloc _ ?_) | (with_reducible refine bdrewN _ ?_) | (with_reducible refine bdrew ?_) | (with_reducible refine bset (by first | exact Nat.le_refl _ | (dsimp only; omega)) ?_))), ?_, ?_, ?_⟩ <;> first | omega | (go_simp; done) | (simp; omega)) (first | (go_at_call 66; (with_reducible refine (isareg_any _ _ _ ?_ ?_ ?_ ?_).mono ?_) <;> (first | exact h0 | exact h1 | omega | skip); rintro e w' ⟨rfl, hb⟩; obtain ⟨hz, hc, hf⟩ := bcell hb; (try simp only [World.size_alloc, World.size_drew, World.heap_drewN, World.size_setCell] at hz); (try have hs0 : w.heap.size < w'.heap.size := by omega); (try have hs1 : w.heap.size + 1 < w'.heap.size := by omega); (try have hs2 : w.heap.size + 2 < w'.heap.size := by omega)))
  go_wp2
  exact bodyPost_ret (v := .agg #[.int .i8 op, .int .i8 (fldI x 0), .int .i8 (fldI x 5), .int .i8 (fldI x 16), .int .i64 0]) (by simp [results, Tryd.results67, go_sem, *]) rfl ⟨rfl, (by repeat (first | (with_reducible exact Below.refl _ _) | (with_reducible assumption) | (with_reducible refine bthen (by with_reducible assumption) ?_) | (with_reducible refine balloc _ ?_) | (with_reducible refine bdrewN _ ?_) | (with_reducible refine bdrew ?_) | (with_reducible refine bset (by first | exact Nat.le_refl _ | (dsimp only; omega)) ?_)))⟩
set_option maxHeartbeats 1000000 in
theorem reader3 (op x : Int) (q : Nat) (w : World) (h0 : 0 ≤ x) (h1 : x < 18446744073709551616) (hq : w.cell? ⟨q, 0, none⟩ = some (.int .i8 op)) :
    Calls Tryd.prog 68 #[.int .u64 x, .pointer (some ⟨q, 0, none⟩)] w fun e w' => e = .returned (.agg #[.int .i8 op, .int .i8 (fldI x 0), .int .i8 (fldI x 5), .int .i8 0, .int .i64 (x / 1024 % 4096)]) ∧ Below w.heap.size w w' := by
  have hql : q < w.heap.size := World.block_lt_of_cell? w _ hq
  have HG := get_addi x
  go_enter Tryd.func68, Tryd.ntmps68
  go_wp2_with fail
  go_region_held3 (fun W => Below w.heap.size w W ∧ w.heap.size < W.heap.size ∧ q < W.heap.size ∧ W.cell? ⟨q, 0, none⟩ = some (.int .i8 op)) (refine ⟨(by repeat (first | (with_reducible exact Below.refl _ _) | (with_reducible assumption) | (with_reducible exact And.left (by with_reducible assumption)) | (with_reducible refine bthen (by with_reducible assumption) ?_) | (with_reducible refine balloc _ ?_) | (with_reducible refine bdrewN _ ?_) | (with_reducible refine bdrew ?_) | (with_reducible refine bset (by first | exact Nat.le_refl _ | (dsimp only; omega)) ?_))), ?_, ?_, ?_⟩ <;> first | omega | (go_simp; done) | (simp; omega)) (first | (go_at_call 66; (with_reducible refine (isareg_any _ _ _ ?_ ?_ ?_ ?_).mono ?_) <;> (first | exact h0 | exact h1 | omega | skip); rintro e w' ⟨rfl, hb⟩; obtain ⟨hz, hc, hf⟩ := bcell hb; (try simp only [World.size_alloc, World.size_drew, World.heap_drewN, World.size_setCell] at hz); (try have hs0 : w.heap.size < w'.heap.size := by omega); (try have hs1 : w.heap.size + 1 < w'.heap.size := by omega); (try have hs2 : w.heap.size + 2 < w'.heap.size := by omega)) | (go_at_call 22; (with_reducible refine (getaddi _ _ ?_ ?_).mono ?_) <;> (first | exact h0 | exact h1 | omega | skip); rintro e w' ⟨rfl, hb⟩; obtain ⟨hz, hc, hf⟩ := bcell hb; (try simp only [World.size_alloc, World.size_drew, World.heap_drewN, World.size_setCell] at hz); (try have hs0 : w.heap.size < w'.heap.size := by omega); (try have hs1 : w.heap.size + 1 < w'.heap.size := by omega); (try have hs2 : w.heap.size + 2 < w'.heap.size := by omega)))
  go_wp2
  exact bodyPost_ret (v := .agg #[.int .i8 op, .int .i8 (fldI x 0), .int .i8 (fldI x 5), .int .i8 0, .int .i64 (x / 1024 % 4096)]) (by simp [results, Tryd.results68, go_sem, *]) rfl ⟨rfl, (by repeat (first | (with_reducible exact Below.refl _ _) | (with_reducible assumption) | (with_reducible refine bthen (by with_reducible assumption) ?_) | (with_reducible refine balloc _ ?_) | (with_reducible refine bdrewN _ ?_) | (with_reducible refine bdrew ?_) | (with_reducible refine bset (by first | exact Nat.le_refl _ | (dsimp only; omega)) ?_)))⟩
set_option maxHeartbeats 1000000 in
theorem reader4 (op x : Int) (q : Nat) (w : World) (h0 : 0 ≤ x) (h1 : x < 18446744073709551616) (hq : w.cell? ⟨q, 0, none⟩ = some (.int .i8 op)) :
    Calls Tryd.prog 69 #[.int .u64 x, .pointer (some ⟨q, 0, none⟩)] w fun e w' => e = .returned (.agg #[.int .i8 op, .int .i8 (fldI x 0), .int .i8 (fldI x 5), .int .i8 0, .int .i64 0]) ∧ Below w.heap.size w w' := by
  have hql : q < w.heap.size := World.block_lt_of_cell? w _ hq
  go_enter Tryd.func69, Tryd.ntmps69
  go_wp2_with fail
  go_region_held3 (fun W => Below w.heap.size w W ∧ w.heap.size < W.heap.size ∧ q < W.heap.size ∧ W.cell? ⟨q, 0, none⟩ = some (.int .i8 op)) (refine ⟨(by repeat (first | (with_reducible exact Below.refl _ _) | (with_reducible assumption) | (with_reducible exact And.left (by with_reducible assumption)) | (with_reducible refine bthen (by with_reducible assumption) ?_) | (with_reducible refine balloc _ ?_) | (with_reducible refine bdrewN _ ?_) | (with_reducible refine bdrew ?_) | (with_reducible refine bset (by first | exact Nat.le_refl _ | (dsimp only; omega)) ?_))), ?_, ?_, ?_⟩ <;> first | omega | (go_simp; done) | (simp; omega)) (first | (go_at_call 66; (with_reducible refine (isareg_any _ _ _ ?_ ?_ ?_ ?_).mono ?_) <;> (first | exact h0 | exact h1 | omega | skip); rintro e w' ⟨rfl, hb⟩; obtain ⟨hz, hc, hf⟩ := bcell hb; (try simp only [World.size_alloc, World.size_drew, World.heap_drewN, World.size_setCell] at hz); (try have hs0 : w.heap.size < w'.heap.size := by omega); (try have hs1 : w.heap.size + 1 < w'.heap.size := by omega); (try have hs2 : w.heap.size + 2 < w'.heap.size := by omega)))
  go_wp2
  exact bodyPost_ret (v := .agg #[.int .i8 op, .int .i8 (fldI x 0), .int .i8 (fldI x 5), .int .i8 0, .int .i64 0]) (by simp [results, Tryd.results69, go_sem, *]) rfl ⟨rfl, (by repeat (first | (with_reducible exact Below.refl _ _) | (with_reducible assumption) | (with_reducible refine bthen (by with_reducible assumption) ?_) | (with_reducible refine balloc _ ?_) | (with_reducible refine bdrewN _ ?_) | (with_reducible refine bdrew ?_) | (with_reducible refine bset (by first | exact Nat.le_refl _ | (dsimp only; omega)) ?_)))⟩
set_option maxHeartbeats 1000000 in
theorem reader5 (op x : Int) (q : Nat) (w : World) (h0 : 0 ≤ x) (h1 : x < 18446744073709551616) (hq : w.cell? ⟨q, 0, none⟩ = some (.int .i8 op)) :
    Calls Tryd.prog 70 #[.int .u64 x, .pointer (some ⟨q, 0, none⟩)] w fun e w' => e = .returned (.agg #[.int .i8 op, .int .i8 0, .int .i8 0, .int .i8 0, .int .i64 (sgnI x 33554432)]) ∧ Below w.heap.size w w' := by
  have hql : q < w.heap.size := World.block_lt_of_cell? w _ hq
  go_enter Tryd.func70, Tryd.ntmps70
  go_wp2_with fail
  go_region_held3 (fun W => Below w.heap.size w W ∧ w.heap.size < W.heap.size ∧ q < W.heap.size ∧ W.cell? ⟨q, 0, none⟩ = some (.int .i8 op)) (refine ⟨(by repeat (first | (with_reducible exact Below.refl _ _) | (with_reducible assumption) | (with_reducible exact And.left (by with_reducible assumption)) | (with_reducible refine bthen (by with_reducible assumption) ?_) | (with_reducible refine balloc _ ?_) | (with_reducible refine bdrewN _ ?_) | (with_reducible refine bdrew ?_) | (with_reducible refine bset (by first | exact Nat.le_refl _ | (dsimp only; omega)) ?_))), ?_, ?_, ?_⟩ <;> first | omega | (go_simp; done) | (simp; omega)) (first | (go_at_call 71; (with_reducible refine (sign25 _ _ ?_ ?_).mono ?_) <;> (first | exact h0 | exact h1 | omega | skip); rintro e w' ⟨rfl, hb⟩; obtain ⟨hz, hc, hf⟩ := bcell hb; (try simp only [World.size_alloc, World.size_drew, World.heap_drewN, World.size_setCell] at hz); (try have hs0 : w.heap.size < w'.heap.size := by omega); (try have hs1 : w.heap.size + 1 < w'.heap.size := by omega); (try have hs2 : w.heap.size + 2 < w'.heap.size := by omega)))
  go_wp2
  exact bodyPost_ret (v := .agg #[.int .i8 op, .int .i8 0, .int .i8 0, .int .i8 0, .int .i64 (sgnI x 33554432)]) (by simp [results, Tryd.results70, go_sem, *]) rfl ⟨rfl, (by repeat (first | (with_reducible exact Below.refl _ _) | (with_reducible assumption) | (with_reducible refine bthen (by with_reducible assumption) ?_) | (with_reducible refine balloc _ ?_) | (with_reducible refine bdrewN _ ?_) | (with_reducible refine bdrew ?_) | (with_reducible refine bset (by first | exact Nat.le_refl _ | (dsimp only; omega)) ?_)))⟩
set_option maxHeartbeats 1000000 in
theorem reader6 (op x : Int) (q : Nat) (w : World) (h0 : 0 ≤ x) (h1 : x < 18446744073709551616) (hq : w.cell? ⟨q, 0, none⟩ = some (.int .i8 op)) :
    Calls Tryd.prog 72 #[.int .u64 x, .pointer (some ⟨q, 0, none⟩)] w fun e w' => e = .returned (.agg #[.int .i8 op, .int .i8 (fldI x 0), .int .i8 0, .int .i8 0, .int .i64 (sgnI (x / 32) 262144)]) ∧ Below w.heap.size w w' := by
  have hql : q < w.heap.size := World.block_lt_of_cell? w _ hq
  go_enter Tryd.func72, Tryd.ntmps72
  go_wp2_with fail
  go_region_held3 (fun W => Below w.heap.size w W ∧ w.heap.size < W.heap.size ∧ q < W.heap.size ∧ W.cell? ⟨q, 0, none⟩ = some (.int .i8 op)) (refine ⟨(by repeat (first | (with_reducible exact Below.refl _ _) | (with_reducible assumption) | (with_reducible exact And.left (by with_reducible assumption)) | (with_reducible refine bthen (by with_reducible assumption) ?_) | (with_reducible refine balloc _ ?_) | (with_reducible refine bdrewN _ ?_) | (with_reducible refine bdrew ?_) | (with_reducible refine bset (by first | exact Nat.le_refl _ | (dsimp only; omega)) ?_))), ?_, ?_, ?_⟩ <;> first | omega | (go_simp; done) | (simp; omega)) (first | (go_at_call 66; (with_reducible refine (isareg_any _ _ _ ?_ ?_ ?_ ?_).mono ?_) <;> (first | exact h0 | exact h1 | omega | skip); rintro e w' ⟨rfl, hb⟩; obtain ⟨hz, hc, hf⟩ := bcell hb; (try simp only [World.size_alloc, World.size_drew, World.heap_drewN, World.size_setCell] at hz); (try have hs0 : w.heap.size < w'.heap.size := by omega); (try have hs1 : w.heap.size + 1 < w'.heap.size := by omega); (try have hs2 : w.heap.size + 2 < w'.heap.size := by omega)) | (go_at_call 71; (with_reducible refine (sign18 _ _ ?_ ?_).mono ?_) <;> (first | exact h0 | exact h1 | omega | skip); rintro e w' ⟨rfl, hb⟩; obtain ⟨hz, hc, hf⟩ := bcell hb; (try simp only [World.size_alloc, World.size_drew, World.heap_drewN, World.size_setCell] at hz); (try have hs0 : w.heap.size < w'.heap.size := by omega); (try have hs1 : w.heap.size + 1 < w'.heap.size := by omega); (try have hs2 : w.heap.size + 2 < w'.heap.size := by omega)))
  go_wp2
  exact bodyPost_ret (v := .agg #[.int .i8 op, .int .i8 (fldI x 0), .int .i8 0, .int .i8 0, .int .i64 (sgnI (x / 32) 262144)]) (by simp [results, Tryd.results72, go_sem, *]) rfl ⟨rfl, (by repeat (first | (with_reducible exact Below.refl _ _) | (with_reducible assumption) | (with_reducible refine bthen (by with_reducible assumption) ?_) | (with_reducible refine balloc _ ?_) | (with_reducible refine bdrewN _ ?_) | (with_reducible refine bdrew ?_) | (with_reducible refine bset (by first | exact Nat.le_refl _ | (dsimp only; omega)) ?_)))⟩
set_option maxHeartbeats 1000000 in
theorem reader7 (op x : Int) (q : Nat) (w : World) (h0 : 0 ≤ x) (h1 : x < 18446744073709551616) (hq : w.cell? ⟨q, 0, none⟩ = some (.int .i8 op)) :
    Calls Tryd.prog 73 #[.int .u64 x, .pointer (some ⟨q, 0, none⟩)] w fun e w' => e = .returned (.agg #[.int .i8 op, .int .i8 0, .int .i8 0, .int .i8 0, .int .i64 0]) ∧ Below w.heap.size w w' := by
  have hql : q < w.heap.size := World.block_lt_of_cell? w _ hq
  go_enter Tryd.func73, Tryd.ntmps73
  go_wp2_with fail
  exact bodyPost_ret (v := .agg #[.int .i8 op, .int .i8 0, .int .i8 0, .int .i8 0, .int .i64 0]) (by simp [results, Tryd.results73, go_sem, *]) rfl ⟨rfl, (by repeat (first | (with_reducible exact Below.refl _ _) | (with_reducible assumption) | (with_reducible refine bthen (by with_reducible assumption) ?_) | (with_reducible refine balloc _ ?_) | (with_reducible refine bdrewN _ ?_) | (with_reducible refine bdrew ?_) | (with_reducible refine bset (by first | exact Nat.le_refl _ | (dsimp only; omega)) ?_)))⟩
end Go.Proofs.YtailocbophkmmaaDoor
