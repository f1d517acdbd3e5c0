/-
  Package field: its functions' walks.
-/
import Derived.Test.YtailocbophkmmaaDoorBase
import Derived.Test.YtailocbophkmmaaDoorFieldPure
import Derived.Deep.RegionWith
import Derived.Deep.RegionHeld3
namespace Go.Proofs.YtailocbophkmmaaDoor
open Go.RowKit FP

def thereB (h l : Int) : Bool := decide (0 ≤ l ∧ l ≤ h ∧ h ≤ 63)
theorem there_any (h l : Int) (w : World) :
    Calls Tryd.prog 42 #[.agg #[.int .i64 h, .int .i64 l]] w fun e w' => e = .returned (.bool (thereB h l)) ∧ Below w.heap.size w w' := by
  go_enter Tryd.func42, Tryd.ntmps42
  go_wp2
  all_goals
    go_ret
    exact ⟨by simp only [thereB, Ending.returned.injEq]; simp; omega, (by repeat (first | (with_reducible exact Below.refl _ _) | (with_reducible assumption) | (with_reducible refine bthen (by with_reducible assumption) ?_) | (with_reducible refine balloc _ ?_) | (with_reducible refine bdrewN _ ?_) | (with_reducible refine bdrew ?_) | (with_reducible refine bset (by first | exact Nat.le_refl _ | (dsimp only; omega)) ?_)))⟩
theorem thereB_t {h l : Int} (h0 : 0 ≤ l) (h1 : l ≤ h) (h2 : h ≤ 63) : thereB h l = true := by simp [thereB]; omega
theorem wrap_u64 (x : Int) (h0 : 0 ≤ x) (h1 : x < 18446744073709551616) : IntKind.u64.wrap x = x := by
  have : IntKind.u64.wrap x = x % 18446744073709551616 := by simp [IntKind.wrap, IntKind.bits, IntKind.signed]
  omega
theorem ret_u64 {a b : Int} (h : a = b) : Ending.returned (.int .u64 a) = .returned (.int .u64 b) := by rw [h]

theorem ones_any (h l : Int) (w : World) (h0 : 0 ≤ l) (h1 : l ≤ h) (l0 : h ≤ 63)  :
    Calls Tryd.prog 43 #[.agg #[.int .i64 h, .int .i64 l]] w fun e w' => e = .returned (.int .u64 (onesI h l)) ∧ Below w.heap.size w w' := by
  have HT := Lib.hid (thereB_t h0 h1 l0)
  go_enter Tryd.func43, Tryd.ntmps43
  go_wp2_with (go_at_call 42; refine (there_any h l _).mono ?_; rintro e w' ⟨rfl, hb⟩; rw [HT.out]; obtain ⟨hz, hc, hf⟩ := bcell hb)
  go_ret
  exact ⟨ret_u64 (ones_eq h l h0 h1 l0), (by repeat (first | (with_reducible exact Below.refl _ _) | (with_reducible assumption) | (with_reducible refine bthen (by with_reducible assumption) ?_) | (with_reducible refine balloc _ ?_) | (with_reducible refine bdrewN _ ?_) | (with_reducible refine bdrew ?_) | (with_reducible refine bset (by first | exact Nat.le_refl _ | (dsimp only; omega)) ?_)))⟩

theorem get_any (x h l : Int) (w : World) (hx0 : 0 ≤ x) (hx : x < 18446744073709551616) (h0 : 0 ≤ l) (h1 : l ≤ h) (l0 : h ≤ 63)  :
    Calls Tryd.prog 22 #[.int .u64 x, .int .i64 h, .int .i64 l] w fun e w' => e = .returned (.int .u64 (getI x h l)) ∧ Below w.heap.size w w' := by
  have HT := Lib.hid (thereB_t h0 h1 l0)
  have HG := Lib.hid (get_eq x h l hx0 hx h0 h1 l0)
  go_enter Tryd.func22, Tryd.ntmps22
  go_wp2_with (first | (go_at_call 42; refine (there_any h l _).mono ?_; rintro e w' ⟨rfl, hb⟩; rw [HT.out]; obtain ⟨hz, hc, hf⟩ := bcell hb) | (go_at_call 43; (with_reducible refine (ones_any h l _ h0 h1 l0).mono ?_); rintro e w' ⟨rfl, hb⟩; obtain ⟨hz, hc, hf⟩ := bcell hb; (try simp only [World.size_alloc, World.size_drew, World.heap_drewN, World.size_setCell] at hz); (try have hs0 : w.heap.size < w'.heap.size := by omega); (try have hs1 : w.heap.size + 1 < w'.heap.size := by omega); (try have hs2 : w.heap.size + 2 < w'.heap.size := by omega)))
  go_ret
  exact ⟨ret_u64 HG.out, (by repeat (first | (with_reducible exact Below.refl _ _) | (with_reducible assumption) | (with_reducible refine bthen (by with_reducible assumption) ?_) | (with_reducible refine balloc _ ?_) | (with_reducible refine bdrewN _ ?_) | (with_reducible refine bdrew ?_) | (with_reducible refine bset (by first | exact Nat.le_refl _ | (dsimp only; omega)) ?_)))⟩

theorem put_val (x h l v : Int) (w : World) (hx0 : 0 ≤ x) (hx : x < 18446744073709551616) (h0 : 0 ≤ l) (h1 : l ≤ h) (l0 : h ≤ 63) (hv0 : 0 ≤ v) (hv : v < 2 ^ (h - l + 1).toNat) (hv1 : v < 18446744073709551616) :
    Calls Tryd.prog 46 #[.agg #[.int .i64 h, .int .i64 l], .int .u64 x, .int .u64 v] w fun e w' => e = .returned (.int .u64 (putI x h l v)) ∧ Below w.heap.size w w' := by
  have HG := Lib.hid (put_eq x h l v hx0 hx h0 h1 l0 hv0 hv)
  clear hv
  go_enter Tryd.func46, Tryd.ntmps46
  go_wp2
  go_region_held3 (fun w' => Below w.heap.size w w' ∧ w.heap.size < w'.heap.size ∧ w'.cell? ⟨w.heap.size, 0, none⟩ = some (.int .i64 h) ∧ w'.cell? ⟨w.heap.size, 1, none⟩ = some (.int .i64 l)) (refine ⟨(by repeat (first | (with_reducible exact Below.refl _ _) | (with_reducible assumption) | (with_reducible exact And.left (by with_reducible assumption)) | (with_reducible refine bthen (by with_reducible assumption) ?_) | (with_reducible refine balloc _ ?_) | (with_reducible refine bdrewN _ ?_) | (with_reducible refine bdrew ?_) | (with_reducible refine bset (by first | exact Nat.le_refl _ | (dsimp only; omega)) ?_))), ?_, ?_, ?_⟩ <;> first | omega | (go_simp; done) | (simp; omega))
    (first | (go_at_call 43; (with_reducible refine (ones_any h l _ h0 h1 l0).mono ?_); rintro e w' ⟨rfl, hb⟩; obtain ⟨hz, hc, hf⟩ := bcell hb; (try simp only [World.size_alloc, World.size_drew, World.heap_drewN, World.size_setCell] at hz); (try have hs0 : w.heap.size < w'.heap.size := by omega); (try have hs1 : w.heap.size + 1 < w'.heap.size := by omega); (try have hs2 : w.heap.size + 2 < w'.heap.size := by omega)))
  have hw : min (IntKind.u64.wrap l).toNat 64 = l.toNat := by rw [wrap_u64 l h0 (by omega)]; omega
  rw [hw]
  go_wp2
  go_ret
  exact ⟨ret_u64 HG.out, (by repeat (first | (with_reducible exact Below.refl _ _) | (with_reducible assumption) | (with_reducible refine bthen (by with_reducible assumption) ?_) | (with_reducible refine balloc _ ?_) | (with_reducible refine bdrewN _ ?_) | (with_reducible refine bdrew ?_) | (with_reducible refine bset (by first | exact Nat.le_refl _ | (dsimp only; omega)) ?_)))⟩

/-- Whether the value goes in. -/
theorem fits_any (v h l : Int) (w : World) (h0 : 0 ≤ l) (h1 : l ≤ h) (l0 : h ≤ 63) (hv0 : 0 ≤ v) (hv1 : v < 18446744073709551616) :
    Calls Tryd.prog 45 #[.int .u64 v, .int .i64 h, .int .i64 l] w fun e w' => e = .returned (.bool (fitsB v h l)) ∧ Below w.heap.size w w' := by
  have HT := Lib.hid (thereB_t h0 h1 l0)
  go_enter Tryd.func45, Tryd.ntmps45
  go_wp2_with (first | (go_at_call 42; refine (there_any h l _).mono ?_; rintro e w' ⟨rfl, hb⟩; rw [HT.out]; obtain ⟨hz, hc, hf⟩ := bcell hb) | (go_at_call 43; (with_reducible refine (ones_any h l _ h0 h1 l0).mono ?_); rintro e w' ⟨rfl, hb⟩; obtain ⟨hz, hc, hf⟩ := bcell hb; (try simp only [World.size_alloc, World.size_drew, World.heap_drewN, World.size_setCell] at hz); (try have hs0 : w.heap.size < w'.heap.size := by omega); (try have hs1 : w.heap.size + 1 < w'.heap.size := by omega); (try have hs2 : w.heap.size + 2 < w'.heap.size := by omega)))
  · go_ret
    exact ⟨congrArg (fun b => Ending.returned (.bool b)) (fits_yes v h l h0 h1 l0 hv0 hv1 (by assumption)), (by repeat (first | (with_reducible exact Below.refl _ _) | (with_reducible assumption) | (with_reducible refine bthen (by with_reducible assumption) ?_) | (with_reducible refine balloc _ ?_) | (with_reducible refine bdrewN _ ?_) | (with_reducible refine bdrew ?_) | (with_reducible refine bset (by first | exact Nat.le_refl _ | (dsimp only; omega)) ?_)))⟩
  · go_ret
    exact ⟨congrArg (fun b => Ending.returned (.bool b)) (fits_no v h l h0 h1 l0 hv0 (by assumption)).symm, (by repeat (first | (with_reducible exact Below.refl _ _) | (with_reducible assumption) | (with_reducible refine bthen (by with_reducible assumption) ?_) | (with_reducible refine balloc _ ?_) | (with_reducible refine bdrewN _ ?_) | (with_reducible refine bdrew ?_) | (with_reducible refine bset (by first | exact Nat.le_refl _ | (dsimp only; omega)) ?_)))⟩

theorem fitsB_t {v h l : Int} (hv : v < 2 ^ (h - l + 1).toNat) : fitsB v h l = true := decide_eq_true hv
theorem Put_fits (x h l v : Int) (w : World) (hx0 : 0 ≤ x) (hx : x < 18446744073709551616) (h0 : 0 ≤ l) (h1 : l ≤ h) (l0 : h ≤ 63) (hv0 : 0 ≤ v) (hv1 : v < 18446744073709551616) (hv : v < 2 ^ (h - l + 1).toNat) :
    Calls Tryd.prog 25 #[.int .u64 x, .int .i64 h, .int .i64 l, .int .u64 v] w fun e w' => e = .returned (.tuple #[.int .u64 (putI x h l v), .int .i64 0]) ∧ Below w.heap.size w w' := by
  have HT := Lib.hid (fitsB_t hv)
  have HP := Lib.hid (fun w => put_val x h l v w hx0 hx h0 h1 l0 hv0 hv hv1)
  clear hv
  go_enter Tryd.func25, Tryd.ntmps25
  go_wp2_with (first | (go_at_call 45; refine (fits_any v h l _ h0 h1 l0 hv0 hv1).mono ?_; rintro e w' ⟨rfl, hb⟩; rw [HT.out]; obtain ⟨hz, hc, hf⟩ := bcell hb) | (go_at_call 46; (with_reducible refine (HP.out _).mono ?_); rintro e w' ⟨rfl, hb⟩; obtain ⟨hz, hc, hf⟩ := bcell hb; (try simp only [World.size_alloc, World.size_drew, World.heap_drewN, World.size_setCell] at hz); (try have hs0 : w.heap.size < w'.heap.size := by omega); (try have hs1 : w.heap.size + 1 < w'.heap.size := by omega); (try have hs2 : w.heap.size + 2 < w'.heap.size := by omega)))
  go_ret2
  exact ⟨rfl, (by repeat (first | (with_reducible exact Below.refl _ _) | (with_reducible assumption) | (with_reducible refine bthen (by with_reducible assumption) ?_) | (with_reducible refine balloc _ ?_) | (with_reducible refine bdrewN _ ?_) | (with_reducible refine bdrew ?_) | (with_reducible refine bset (by first | exact Nat.le_refl _ | (dsimp only; omega)) ?_)))⟩
end Go.Proofs.YtailocbophkmmaaDoor
