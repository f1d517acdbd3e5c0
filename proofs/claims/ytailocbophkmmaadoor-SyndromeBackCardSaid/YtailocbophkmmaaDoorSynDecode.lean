/-
  Package syndrome: Decode's walk.
-/
import Derived.Test.YtailocbophkmmaaDoorSyndrome
namespace Go.Proofs.YtailocbophkmmaaDoor
open Go.RowKit FP

def faultK (k : Int) : Int := if k = 15 then 2 else if k = 33 then 3 else if 4 ≤ k ∧ k ≤ 7 then 1 else 0
def faultL (k : Int) : Int := if k = 15 then 3 else if k = 33 then 0 else if 4 ≤ k ∧ k ≤ 7 then k - 4 else 0
theorem wrap_i8 (x : Int) (h0 : -128 ≤ x) (h1 : x < 128) : IntKind.i8.wrap x = x := by
  simp [IntKind.wrap, IntKind.bits, IntKind.signed]; omega
theorem ret2_i8 {a b c d : Int} (h : a = c) (h' : b = d) : Ending.returned (.tuple #[.int .i8 a, .int .i8 b]) = .returned (.tuple #[.int .i8 c, .int .i8 d]) := by rw [h, h']
theorem fault_any (k : Int) (w : World) :
    Calls Tryd.prog 23 #[.int .u64 k] w fun e w' => e = .returned (.tuple #[.int .i8 (faultK k), .int .i8 (faultL k)]) ∧ Below w.heap.size w w' := by
  go_enter Tryd.func23, Tryd.ntmps23
  go_wp2
  all_goals
    go_ret2
    exact ⟨ret2_i8 (by grind [faultK]) (by grind [faultL, wrap_i8, wrap_u64]), (by repeat (first | (with_reducible exact Below.refl _ _) | (with_reducible assumption) | (with_reducible refine bthen (by with_reducible assumption) ?_) | (with_reducible refine balloc _ ?_) | (with_reducible refine bdrewN _ ?_) | (with_reducible refine bdrew ?_) | (with_reducible refine bset (by first | exact Nat.le_refl _ | (dsimp only; omega)) ?_)))⟩

def clsTo (k : Int) : Nat → Int
  | 0 => 0
  | n + 1 => if codeI n = k then n else clsTo k n
/-- What the loop over the classes leaves: the result's cells and the syndrome's. -/
def DecAt (k far : Int) (w : World) (n : Nat) (wr : World) : Prop :=
  Below w.heap.size w wr ∧ w.heap.size + 1 < wr.heap.size ∧
    wr.heap[w.heap.size]? = some (.cells #[.int .i8 0, .bool false, .int .i8 0, .int .i8 0, .int .u64 0] 25 (0, 0)) ∧
    wr.heap[w.heap.size + 1]? = some (.cells #[.int .i8 (clsTo k n), .bool false, .int .i8 0, .int .i8 0, .int .u64 far] 25 (0, 0))

theorem decAt_set {k far : Int} {w wr w' : World} {n : Nat} (hD : DecAt k far w n wr) (hb : Below wr.heap.size wr w') (m : Int) (hm : m = n) (hk : codeI n = k) : DecAt k far w (n + 1) (w'.setCell ⟨w.heap.size + 1, 0, none⟩ (.int .i8 m)) := by
  obtain ⟨hB, hs, b0, b1⟩ := hD
  subst hm
  refine ⟨(hB.trans (hb.mono (by omega))).setCell (by simp) _, by have := hb.size; simp; omega, blk_far (by simp) _ (blk_below hb (by omega) b0), blk_set 0 _ ?_ (blk_below hb (by omega) b1)⟩
  simp [clsTo, hk]
theorem decAt_keep {k far : Int} {w wr w' : World} {n : Nat} (hD : DecAt k far w n wr) (hb : Below wr.heap.size wr w') (hk : codeI n ≠ k) : DecAt k far w (n + 1) w' := by
  obtain ⟨hB, hs, b0, b1⟩ := hD
  refine ⟨hB.trans (hb.mono (by omega)), by have := hb.size; omega, blk_below hb (by omega) b0, ?_⟩
  rw [clsTo, if_neg hk]
  exact blk_below hb (by omega) b1
def dC (esr : Int) : Int := clsTo (getI esr 31 26) 5
def dS (esr : Int) : Bool := decide (dC esr = 2) && (getI esr 6 6 == 1)
def dF (esr : Int) : Int := if dC esr = 2 then faultK (getI esr 5 0) else 0
def dL (esr : Int) : Int := if dC esr = 2 then faultL (getI esr 5 0) else 0
def dOk (esr far : Int) : Bool := mayB (dC esr) (dS esr) (dF esr) (dL esr) far && (esrI (dC esr) (dS esr) (dF esr) (dL esr) == esr)
/-- What Decode answers. -/
def decV (esr far : Int) : Value := if dOk esr far then .tuple #[.agg #[.int .i8 (dC esr), .bool (dS esr), .int .i8 (dF esr), .int .i8 (dL esr), .int .u64 far], .int .i64 0]
  else .tuple #[.agg #[.int .i8 0, .bool false, .int .i8 0, .int .i8 0, .int .u64 0], .int .i64 2]
theorem wrap_i8n (n : Nat) (h : n ≤ 5) : IntKind.i8.wrap (n : Int) = n := wrap_i8 _ (by omega) (by omega)
set_option maxHeartbeats 4000000 in
theorem decode_any (esr far : Int) (w : World) (h0 : 0 ≤ esr) (h1 : esr < 18446744073709551616) (hg : Codes w) :
    Calls Tryd.prog 8 #[.int .u64 esr, .int .u64 far] w fun e w' => e = .returned (decV esr far) ∧ Below w.heap.size w w' := by
  have hlt := hg.lt
  have HG := Lib.hid hg
  obtain ⟨g0, g1, g2, g3, g4⟩ := hg
  have i0 : ∀ w, (Instr.index 50 (.agg #[.int .u64 63, .int .u64 21, .int .u64 36, .int .u64 0, .int .u64 62]) (.int .i64 0)).run Tryd.prog w = .ok (.int .u64 63) w := fun _ => by kernel_rfl
  have i1 : ∀ w, (Instr.index 50 (.agg #[.int .u64 63, .int .u64 21, .int .u64 36, .int .u64 0, .int .u64 62]) (.int .i64 1)).run Tryd.prog w = .ok (.int .u64 21) w := fun _ => by kernel_rfl
  have i2 : ∀ w, (Instr.index 50 (.agg #[.int .u64 63, .int .u64 21, .int .u64 36, .int .u64 0, .int .u64 62]) (.int .i64 2)).run Tryd.prog w = .ok (.int .u64 36) w := fun _ => by kernel_rfl
  have i3 : ∀ w, (Instr.index 50 (.agg #[.int .u64 63, .int .u64 21, .int .u64 36, .int .u64 0, .int .u64 62]) (.int .i64 3)).run Tryd.prog w = .ok (.int .u64 0) w := fun _ => by kernel_rfl
  have i4 : ∀ w, (Instr.index 50 (.agg #[.int .u64 63, .int .u64 21, .int .u64 36, .int .u64 0, .int .u64 62]) (.int .i64 4)).run Tryd.prog w = .ok (.int .u64 62) w := fun _ => by kernel_rfl
  go_enter Tryd.func8, Tryd.ntmps8
  go_wp2
  go_loopw [15] (fun i wr => ∃ n : Nat, n ≤ 5 ∧ i = .int .i64 n ∧ DecAt (getI esr 31 26) far w n wr) (fun i _ => 5 - (intOf i).toNat)
  case atStart =>
    exact ⟨0, by omega, rfl, (by repeat (first | (with_reducible exact Below.refl _ _) | (with_reducible assumption) | (with_reducible refine bthen (by with_reducible assumption) ?_) | (with_reducible refine balloc _ ?_) | (with_reducible refine bdrewN _ ?_) | (with_reducible refine bdrew ?_) | (with_reducible refine bset (by first | exact Nat.le_refl _ | (dsimp only; omega)) ?_))), by simp, blk_alloc (blk_new _ _ rfl) _, blk_new _ _ (by simp)⟩
  case round =>
    obtain ⟨n, hn, rfl, hD⟩ := hrel
    obtain ⟨hB, hsz, hb0, hb1⟩ := hD
    obtain ⟨k0, f0⟩ := blkc hb0
    obtain ⟨k1, f1⟩ := blkc hb1
    have HB := Lib.hid hB
    have HB0 := Lib.hid hb0
    have HB1 := Lib.hid hb1
    have HD : Hid (DecAt (getI esr 31 26) far w n wr) := Lib.hid ⟨hB, hsz, hb0, hb1⟩
    clear hB hb0 hb1
    by_cases hn5 : n = 5
    · subst hn5
      clear i0 i1 i2 i3 i4 HB0 HB1 HD hn
      have k1' : ∀ (i : Nat), wr.cell? ⟨w.heap.size + 1, i, none⟩ = #[.int .i8 (dC esr), .bool false, .int .i8 0, .int .i8 0, .int .u64 far][i]? := k1
      clear k1
      clear g0 g1 g2 g3 g4
      obtain ⟨c, hc⟩ : ∃ c, dC esr = c := ⟨_, rfl⟩
      rw [hc] at k1'
      have HC := Lib.hid hc
      clear hc
      have hsz0 : w.heap.size < wr.heap.size := by omega
      have HGr : Hid (Codes wr) := Lib.hid (HG.out.below HB.out)
      by_cases hc2 : c = 2
      · subst hc2
        have hs : dS esr = (getI esr 6 6 == 1) := by simp [dS, HC.out]
        have hf : dF esr = faultK (getI esr 5 0) := by simp [dF, HC.out]
        have hl : dL esr = faultL (getI esr 5 0) := by simp [dL, HC.out]
        by_cases hm : mayB 2 (getI esr 6 6 == 1) (faultK (getI esr 5 0)) (faultL (getI esr 5 0)) far = true
        · by_cases he : esrI 2 (getI esr 6 6 == 1) (faultK (getI esr 5 0)) (faultL (getI esr 5 0)) = esr
          · have HV : Hid (decV esr far = .tuple #[.agg #[.int .i8 2, .bool (getI esr 6 6 == 1), .int .i8 (faultK (getI esr 5 0)), .int .i8 (faultL (getI esr 5 0)), .int .u64 far], .int .i64 0]) := Lib.hid (by simp [decV, dOk, HC.out, hs, hf, hl, hm, he])
            have HM := Lib.hid hm
            have he2 : (esrI 2 (getI esr 6 6 == 1) (faultK (getI esr 5 0)) (faultL (getI esr 5 0)) != esr) = false := by simp [he]
            have hv2 : (far != far) = false := by simp
            clear hm he hs hf hl
            go_wp2_with (first | (go_at_call 22; (with_reducible refine (get_any _ _ _ _ ?_ ?_ ?_ ?_ ?_).mono ?_) <;> (first | omega | skip); rintro e w' ⟨rfl, hb⟩; obtain ⟨hz, hc, hf⟩ := bcell hb; (try simp only [World.size_alloc, World.size_drew, World.heap_drewN, World.size_setCell] at hz); (try have hs0 : w.heap.size < w'.heap.size := by omega); (try have hs1 : w.heap.size + 1 < w'.heap.size := by omega); (try have hs2 : w.heap.size + 2 < w'.heap.size := by omega)) | (go_at_call 23; (with_reducible refine (fault_any _ _).mono ?_); rintro e w' ⟨rfl, hb⟩; obtain ⟨hz, hc, hf⟩ := bcell hb; (try simp only [World.size_alloc, World.size_drew, World.heap_drewN, World.size_setCell] at hz); (try have hs0 : w.heap.size < w'.heap.size := by omega); (try have hs1 : w.heap.size + 1 < w'.heap.size := by omega); (try have hs2 : w.heap.size + 2 < w'.heap.size := by omega)) | (go_at_call 9; refine (encode_yes _ _ _ _ _ _ HM.out ?_).mono ?_; (first | exact HGr.out | (have hB := HB.out; exact HG.out.below (by repeat (first | (with_reducible exact Below.refl _ _) | (with_reducible assumption) | (with_reducible refine bthen (by with_reducible assumption) ?_) | (with_reducible refine balloc _ ?_) | (with_reducible refine bdrewN _ ?_) | (with_reducible refine bdrew ?_) | (with_reducible refine bset (by first | exact Nat.le_refl _ | (dsimp only; omega)) ?_))))); rintro e w' ⟨rfl, hb⟩; obtain ⟨hz, hc, hf⟩ := bcell hb; (try simp only [World.size_alloc, World.size_drew, World.heap_drewN, World.size_setCell] at hz); (try have hs0 : w.heap.size < w'.heap.size := by omega); (try have hs1 : w.heap.size + 1 < w'.heap.size := by omega); (try have hs2 : w.heap.size + 2 < w'.heap.size := by omega)))
            exact bodyPost_ret (v := .tuple #[.agg #[.int .i8 2, .bool (getI esr 6 6 == 1), .int .i8 (faultK (getI esr 5 0)), .int .i8 (faultL (getI esr 5 0)), .int .u64 far], .int .i64 0]) (by simp [results, Tryd.results8, go_sem, *]) rfl ⟨by rw [HV.out], (have hB := HB.out; (by repeat (first | (with_reducible exact Below.refl _ _) | (with_reducible assumption) | (with_reducible refine bthen (by with_reducible assumption) ?_) | (with_reducible refine balloc _ ?_) | (with_reducible refine bdrewN _ ?_) | (with_reducible refine bdrew ?_) | (with_reducible refine bset (by first | exact Nat.le_refl _ | (dsimp only; omega)) ?_))))⟩
          · have HV : Hid (decV esr far = .tuple #[.agg #[.int .i8 0, .bool false, .int .i8 0, .int .i8 0, .int .u64 0], .int .i64 2]) := Lib.hid (by simp [decV, dOk, HC.out, hs, hf, hl, hm, he])
            have HM := Lib.hid hm
            have he2 : (esrI 2 (getI esr 6 6 == 1) (faultK (getI esr 5 0)) (faultL (getI esr 5 0)) != esr) = true := by simp [he]
            have hv2 : (far != far) = false := by simp
            clear hm he hs hf hl
            go_wp2_with (first | (go_at_call 22; (with_reducible refine (get_any _ _ _ _ ?_ ?_ ?_ ?_ ?_).mono ?_) <;> (first | omega | skip); rintro e w' ⟨rfl, hb⟩; obtain ⟨hz, hc, hf⟩ := bcell hb; (try simp only [World.size_alloc, World.size_drew, World.heap_drewN, World.size_setCell] at hz); (try have hs0 : w.heap.size < w'.heap.size := by omega); (try have hs1 : w.heap.size + 1 < w'.heap.size := by omega); (try have hs2 : w.heap.size + 2 < w'.heap.size := by omega)) | (go_at_call 23; (with_reducible refine (fault_any _ _).mono ?_); rintro e w' ⟨rfl, hb⟩; obtain ⟨hz, hc, hf⟩ := bcell hb; (try simp only [World.size_alloc, World.size_drew, World.heap_drewN, World.size_setCell] at hz); (try have hs0 : w.heap.size < w'.heap.size := by omega); (try have hs1 : w.heap.size + 1 < w'.heap.size := by omega); (try have hs2 : w.heap.size + 2 < w'.heap.size := by omega)) | (go_at_call 9; refine (encode_yes _ _ _ _ _ _ HM.out ?_).mono ?_; (first | exact HGr.out | (have hB := HB.out; exact HG.out.below (by repeat (first | (with_reducible exact Below.refl _ _) | (with_reducible assumption) | (with_reducible refine bthen (by with_reducible assumption) ?_) | (with_reducible refine balloc _ ?_) | (with_reducible refine bdrewN _ ?_) | (with_reducible refine bdrew ?_) | (with_reducible refine bset (by first | exact Nat.le_refl _ | (dsimp only; omega)) ?_))))); rintro e w' ⟨rfl, hb⟩; obtain ⟨hz, hc, hf⟩ := bcell hb; (try simp only [World.size_alloc, World.size_drew, World.heap_drewN, World.size_setCell] at hz); (try have hs0 : w.heap.size < w'.heap.size := by omega); (try have hs1 : w.heap.size + 1 < w'.heap.size := by omega); (try have hs2 : w.heap.size + 2 < w'.heap.size := by omega)))
            exact bodyPost_ret (v := .tuple #[.agg #[.int .i8 0, .bool false, .int .i8 0, .int .i8 0, .int .u64 0], .int .i64 2]) (by simp [results, Tryd.results8, go_sem, *]) rfl ⟨by rw [HV.out], (have hB := HB.out; (by repeat (first | (with_reducible exact Below.refl _ _) | (with_reducible assumption) | (with_reducible refine bthen (by with_reducible assumption) ?_) | (with_reducible refine balloc _ ?_) | (with_reducible refine bdrewN _ ?_) | (with_reducible refine bdrew ?_) | (with_reducible refine bset (by first | exact Nat.le_refl _ | (dsimp only; omega)) ?_))))⟩
        · have HV : Hid (decV esr far = .tuple #[.agg #[.int .i8 0, .bool false, .int .i8 0, .int .i8 0, .int .u64 0], .int .i64 2]) := Lib.hid (by simp [decV, dOk, HC.out, hs, hf, hl, hm])
          have HM : Hid (mayB 2 (getI esr 6 6 == 1) (faultK (getI esr 5 0)) (faultL (getI esr 5 0)) far = false) := Lib.hid (by simpa using hm)
          clear hm hs hf hl
          go_wp2_with (first | (go_at_call 22; (with_reducible refine (get_any _ _ _ _ ?_ ?_ ?_ ?_ ?_).mono ?_) <;> (first | omega | skip); rintro e w' ⟨rfl, hb⟩; obtain ⟨hz, hc, hf⟩ := bcell hb; (try simp only [World.size_alloc, World.size_drew, World.heap_drewN, World.size_setCell] at hz); (try have hs0 : w.heap.size < w'.heap.size := by omega); (try have hs1 : w.heap.size + 1 < w'.heap.size := by omega); (try have hs2 : w.heap.size + 2 < w'.heap.size := by omega)) | (go_at_call 23; (with_reducible refine (fault_any _ _).mono ?_); rintro e w' ⟨rfl, hb⟩; obtain ⟨hz, hc, hf⟩ := bcell hb; (try simp only [World.size_alloc, World.size_drew, World.heap_drewN, World.size_setCell] at hz); (try have hs0 : w.heap.size < w'.heap.size := by omega); (try have hs1 : w.heap.size + 1 < w'.heap.size := by omega); (try have hs2 : w.heap.size + 2 < w'.heap.size := by omega)) | (go_at_call 9; (with_reducible refine (encode_no _ _ _ _ _ _ HM.out).mono ?_); rintro e w' ⟨rfl, hb⟩; obtain ⟨hz, hc, hf⟩ := bcell hb; (try simp only [World.size_alloc, World.size_drew, World.heap_drewN, World.size_setCell] at hz); (try have hs0 : w.heap.size < w'.heap.size := by omega); (try have hs1 : w.heap.size + 1 < w'.heap.size := by omega); (try have hs2 : w.heap.size + 2 < w'.heap.size := by omega)))
          exact bodyPost_ret (v := .tuple #[.agg #[.int .i8 0, .bool false, .int .i8 0, .int .i8 0, .int .u64 0], .int .i64 2]) (by simp [results, Tryd.results8, go_sem, *]) rfl ⟨by rw [HV.out], (have hB := HB.out; (by repeat (first | (with_reducible exact Below.refl _ _) | (with_reducible assumption) | (with_reducible refine bthen (by with_reducible assumption) ?_) | (with_reducible refine balloc _ ?_) | (with_reducible refine bdrewN _ ?_) | (with_reducible refine bdrew ?_) | (with_reducible refine bset (by first | exact Nat.le_refl _ | (dsimp only; omega)) ?_))))⟩
      · have hc3 : (c == 2) = false := by simp [hc2]
        have hs : dS esr = false := by simp [dS, HC.out, hc2]
        have hf : dF esr = 0 := by simp [dF, HC.out, hc2]
        have hl : dL esr = 0 := by simp [dL, HC.out, hc2]
        clear hc2
        by_cases hm : mayB c false 0 0 far = true
        · by_cases he : esrI c false 0 0 = esr
          · have HV : Hid (decV esr far = .tuple #[.agg #[.int .i8 c, .bool false, .int .i8 0, .int .i8 0, .int .u64 far], .int .i64 0]) := Lib.hid (by simp [decV, dOk, HC.out, hs, hf, hl, hm, he])
            have HM := Lib.hid hm
            have he2 : (esrI c false 0 0 != esr) = false := by simp [he]
            have hv2 : (far != far) = false := by simp
            clear hm he hs hf hl
            go_wp2_with (go_at_call 9; refine (encode_yes _ _ _ _ _ _ HM.out ?_).mono ?_; (first | exact HGr.out | (have hB := HB.out; exact HG.out.below (by repeat (first | (with_reducible exact Below.refl _ _) | (with_reducible assumption) | (with_reducible refine bthen (by with_reducible assumption) ?_) | (with_reducible refine balloc _ ?_) | (with_reducible refine bdrewN _ ?_) | (with_reducible refine bdrew ?_) | (with_reducible refine bset (by first | exact Nat.le_refl _ | (dsimp only; omega)) ?_))))); rintro e w' ⟨rfl, hb⟩; obtain ⟨hz, hc, hf⟩ := bcell hb; (try simp only [World.size_alloc, World.size_drew, World.heap_drewN, World.size_setCell] at hz); (try have hs0 : w.heap.size < w'.heap.size := by omega); (try have hs1 : w.heap.size + 1 < w'.heap.size := by omega); (try have hs2 : w.heap.size + 2 < w'.heap.size := by omega))
            exact bodyPost_ret (v := .tuple #[.agg #[.int .i8 c, .bool false, .int .i8 0, .int .i8 0, .int .u64 far], .int .i64 0]) (by simp [results, Tryd.results8, go_sem, *]) rfl ⟨by rw [HV.out], (have hB := HB.out; (by repeat (first | (with_reducible exact Below.refl _ _) | (with_reducible assumption) | (with_reducible refine bthen (by with_reducible assumption) ?_) | (with_reducible refine balloc _ ?_) | (with_reducible refine bdrewN _ ?_) | (with_reducible refine bdrew ?_) | (with_reducible refine bset (by first | exact Nat.le_refl _ | (dsimp only; omega)) ?_))))⟩
          · have HV : Hid (decV esr far = .tuple #[.agg #[.int .i8 0, .bool false, .int .i8 0, .int .i8 0, .int .u64 0], .int .i64 2]) := Lib.hid (by simp [decV, dOk, HC.out, hs, hf, hl, hm, he])
            have HM := Lib.hid hm
            have he2 : (esrI c false 0 0 != esr) = true := by simp [he]
            have hv2 : (far != far) = false := by simp
            clear hm he hs hf hl
            go_wp2_with (go_at_call 9; refine (encode_yes _ _ _ _ _ _ HM.out ?_).mono ?_; (first | exact HGr.out | (have hB := HB.out; exact HG.out.below (by repeat (first | (with_reducible exact Below.refl _ _) | (with_reducible assumption) | (with_reducible refine bthen (by with_reducible assumption) ?_) | (with_reducible refine balloc _ ?_) | (with_reducible refine bdrewN _ ?_) | (with_reducible refine bdrew ?_) | (with_reducible refine bset (by first | exact Nat.le_refl _ | (dsimp only; omega)) ?_))))); rintro e w' ⟨rfl, hb⟩; obtain ⟨hz, hc, hf⟩ := bcell hb; (try simp only [World.size_alloc, World.size_drew, World.heap_drewN, World.size_setCell] at hz); (try have hs0 : w.heap.size < w'.heap.size := by omega); (try have hs1 : w.heap.size + 1 < w'.heap.size := by omega); (try have hs2 : w.heap.size + 2 < w'.heap.size := by omega))
            exact bodyPost_ret (v := .tuple #[.agg #[.int .i8 0, .bool false, .int .i8 0, .int .i8 0, .int .u64 0], .int .i64 2]) (by simp [results, Tryd.results8, go_sem, *]) rfl ⟨by rw [HV.out], (have hB := HB.out; (by repeat (first | (with_reducible exact Below.refl _ _) | (with_reducible assumption) | (with_reducible refine bthen (by with_reducible assumption) ?_) | (with_reducible refine balloc _ ?_) | (with_reducible refine bdrewN _ ?_) | (with_reducible refine bdrew ?_) | (with_reducible refine bset (by first | exact Nat.le_refl _ | (dsimp only; omega)) ?_))))⟩
        · have HV : Hid (decV esr far = .tuple #[.agg #[.int .i8 0, .bool false, .int .i8 0, .int .i8 0, .int .u64 0], .int .i64 2]) := Lib.hid (by simp [decV, dOk, HC.out, hs, hf, hl, hm])
          have HM : Hid (mayB c false 0 0 far = false) := Lib.hid (by simpa using hm)
          clear hm hs hf hl
          go_wp2_with (go_at_call 9; (with_reducible refine (encode_no _ _ _ _ _ _ HM.out).mono ?_); rintro e w' ⟨rfl, hb⟩; obtain ⟨hz, hc, hf⟩ := bcell hb; (try simp only [World.size_alloc, World.size_drew, World.heap_drewN, World.size_setCell] at hz); (try have hs0 : w.heap.size < w'.heap.size := by omega); (try have hs1 : w.heap.size + 1 < w'.heap.size := by omega); (try have hs2 : w.heap.size + 2 < w'.heap.size := by omega))
          exact bodyPost_ret (v := .tuple #[.agg #[.int .i8 0, .bool false, .int .i8 0, .int .i8 0, .int .u64 0], .int .i64 2]) (by simp [results, Tryd.results8, go_sem, *]) rfl ⟨by rw [HV.out], (have hB := HB.out; (by repeat (first | (with_reducible exact Below.refl _ _) | (with_reducible assumption) | (with_reducible refine bthen (by with_reducible assumption) ?_) | (with_reducible refine balloc _ ?_) | (with_reducible refine bdrewN _ ?_) | (with_reducible refine bdrew ?_) | (with_reducible refine bset (by first | exact Nat.le_refl _ | (dsimp only; omega)) ?_))))⟩
    · clear HG g0 g1 g2 g3 g4 HB HB0 HB1
      obtain rfl | rfl | rfl | rfl | rfl : n = 0 ∨ n = 1 ∨ n = 2 ∨ n = 3 ∨ n = 4 := by omega
      all_goals
        go_wp2_with (go_at_call 22; refine (get_any esr 31 26 _ h0 h1 (by omega) (by omega) (by omega)).mono ?_; rintro e w' ⟨rfl, hb⟩; obtain ⟨hz, hc, hf⟩ := bcell hb)
        · exact ⟨⟨_, by decide, rfl, decAt_set HD.out hb _ rfl (by have := ‹(_ == getI esr 31 26) = true›; simpa [codeI] using this)⟩, by simp [intOf]⟩
        · exact ⟨⟨_, by decide, rfl, decAt_keep HD.out hb (by have := ‹(_ == getI esr 31 26) = false›; simpa [codeI] using this)⟩, by simp [intOf]⟩
end Go.Proofs.YtailocbophkmmaaDoor
