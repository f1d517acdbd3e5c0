/-
  The document's answer for layer 7: Encode.
-/
import Derived.Test.YtailocbophkmmaaDoorRefEnc
namespace Go.Proofs.YtailocbophkmmaaDoor
open Go.RowKit FP

theorem wrapU32 (n : Int) : IntKind.u32.wrap n = n % 4294967296 := by simp [IntKind.wrap, IntKind.bits, IntKind.signed]
theorem and_low (x : Int) (j : Nat) (q : Int) (hq : q = 2 ^ j) (hj : j ≤ 32) : bits .and .u32 (IntKind.u32.wrap x) (q - 1) = x % q := by
  subst hq
  have h1 : 0 ≤ x % 4294967296 ∧ x % 4294967296 < 4294967296 := by omega
  obtain ⟨u, hu⟩ := Int.eq_ofNat_of_zero_le h1.1
  rw [wrapU32, hu]
  have hp := Nat.two_pow_pos j
  have hle : 2 ^ j ≤ 2 ^ 32 := Nat.pow_le_pow_right (by omega) hj
  have e : ((2 : Int) ^ j - 1) = ((2 ^ j - 1 : Nat) : Int) := by simp [Int.natCast_sub hp]
  rw [e, u32_and_nat u _ (by omega) (by omega), Nat.and_two_pow_sub_one_eq_mod]
  have h2 : x % 2 ^ j = (x % 4294967296) % 2 ^ j := by
    have : ((2 : Int) ^ j) ∣ 4294967296 := by
      have : (2 : Int) ^ j ∣ 2 ^ 32 := by exact_mod_cast Nat.pow_dvd_pow 2 hj
      simpa using this
    exact (Int.emod_emod_of_dvd x this).symm
  rw [h2, hu]
  simp
theorem and_low' (x : Int) (j : Nat) (q : Int) (hq : q = 2 ^ j) (hj : j ≤ 32) : bits .and .u32 (x % 4294967296) (q - 1) = x % q := by rw [← wrapU32]; exact and_low x j q hq hj
/-- The word with its registers alone. -/
def regsI (k : Nat) (d n m : Int) : Int := wordI k + m * 65536 + n * 32 + d
theorem regs_or {k : Nat} {d n m imm : Int} (h : okB k d n m imm = true) (hk : k < 18) : bits .or .u32 (bits .or .u32 (bits .or .u32 (wordI k) (m * 65536)) (n * 32)) d = regsI k d n m := by
  obtain ⟨h0, hd, hn, hm, zd, zn, zm, il, im⟩ := okB_cases h
  rcases k_cases (by omega : k < 19) with rfl | rfl | rfl | rfl | rfl | rfl | rfl | rfl | rfl | rfl | rfl | rfl | rfl | rfl | rfl | rfl | rfl | rfl | rfl
  all_goals
    first
      | (exfalso; revert hk; decide)
      | skip
  all_goals
    simp only [Int.toNat_natCast] at zd zn zm
    have zd' := zd
    have zn' := zn
    have zm' := zm
    simp [hasD] at zd
    simp [hasN] at zn
    simp [hasM] at zm
    simp only [regsI]
    simp only [wordI]
    exact chain (by decide) (by decide) hm hn hd (by omega) (by omega) (by omega)
theorem encodeR_no (op d n m imm : Int) (w : World) (h : okB op d n m imm = false) :
    Calls Tryd.prog 16 #[.agg #[.int .i8 op, .int .i8 d, .int .i8 n, .int .i8 m, .int .i64 imm]] w fun e w' => e = .returned (.tuple #[.int .u32 0, .int .i64 60]) ∧ Below w.heap.size w w' := by
  have HT := Lib.hid (chkA_f h)
  clear h
  go_enter Tryd.func16, Tryd.ntmps16
  go_wp2_with (go_at_call 34; (with_reducible refine (refchk_any op d n m imm _).mono ?_); rintro e w' ⟨rfl, hb⟩; rw [HT.out]; obtain ⟨hz, hc, hf⟩ := bcell hb; (try simp only [World.size_alloc, World.size_drew, World.heap_drewN, World.size_setCell] at hz); (try have hs0 : w.heap.size < w'.heap.size := by omega); (try have hs1 : w.heap.size + 1 < w'.heap.size := by omega); (try have hs2 : w.heap.size + 2 < w'.heap.size := by omega))
  go_ret2
  exact ⟨rfl, (by repeat (first | (with_reducible exact Below.refl _ _) | (with_reducible assumption) | (with_reducible refine bthen (by with_reducible assumption) ?_) | (with_reducible refine balloc _ ?_) | (with_reducible refine bdrewN _ ?_) | (with_reducible refine bdrew ?_) | (with_reducible refine bset (by first | exact Nat.le_refl _ | (dsimp only; omega)) ?_)))⟩
theorem encodeR_18 (d n m imm : Int) (w : World) (h : okB 18 d n m imm = true) :
    Calls Tryd.prog 16 #[.agg #[.int .i8 18, .int .i8 d, .int .i8 n, .int .i8 m, .int .i64 imm]] w fun e w' => e = .returned (.tuple #[.int .u32 0, .int .i64 60]) ∧ Below w.heap.size w w' := by
  have HT := Lib.hid (chkA_t h)
  clear h
  go_enter Tryd.func16, Tryd.ntmps16
  go_wp2_with (go_at_call 34; (with_reducible refine (refchk_any 18 d n m imm _).mono ?_); rintro e w' ⟨rfl, hb⟩; rw [HT.out]; obtain ⟨hz, hc, hf⟩ := bcell hb; (try simp only [World.size_alloc, World.size_drew, World.heap_drewN, World.size_setCell] at hz); (try have hs0 : w.heap.size < w'.heap.size := by omega); (try have hs1 : w.heap.size + 1 < w'.heap.size := by omega); (try have hs2 : w.heap.size + 2 < w'.heap.size := by omega))
  go_ret2
  exact ⟨rfl, (by repeat (first | (with_reducible exact Below.refl _ _) | (with_reducible assumption) | (with_reducible refine bthen (by with_reducible assumption) ?_) | (with_reducible refine balloc _ ?_) | (with_reducible refine bdrewN _ ?_) | (with_reducible refine bdrew ?_) | (with_reducible refine bset (by first | exact Nat.le_refl _ | (dsimp only; omega)) ?_)))⟩
theorem refbase_lit (op : Int) (w : World) (h : 0 ≤ op ∧ op ≤ 18) :
    Calls Tryd.prog 35 #[.int .i8 op] w fun e w' => e = .returned (.int .u32 (wordI op.toNat)) ∧ Below w.heap.size w w' := by
  obtain ⟨k, rfl⟩ := Int.eq_ofNat_of_zero_le h.1
  exact refbase_in k w (by omega)
set_option maxRecDepth 100000 in
set_option maxHeartbeats 2000000 in
theorem encodeR_1 (d n m imm : Int) (w : World) (h : okB 1 d n m imm = true) :
    Calls Tryd.prog 16 #[.agg #[.int .i8 1, .int .i8 d, .int .i8 n, .int .i8 m, .int .i64 imm]] w fun e w' => e = .returned (.tuple #[.int .u32 (encI 1 d n m imm), .int .i64 0]) ∧ Below w.heap.size w w' := by
  have HT := Lib.hid (chkA_t h)
  obtain ⟨b0, b1⟩ := immI_bd h
  obtain ⟨_, ⟨d0, d1⟩, ⟨n0, n1⟩, ⟨m0, m1⟩, zd, zn, zm, il, im⟩ := okB_cases h
  simp [leastI, mostI] at il im
  have HE := enc_or h (by decide)
  have HR := regs_or (k := 1) (imm := imm) h (by decide)
  have e2 : (if (1 : Int) = 7 ∧ imm < 0 then (3506438144 : Int) else wordI (1 : Int).toNat) = wordI 1 := by simp
  have e1 : immI 1 imm = imm * 32 := by simp [immI]
  rw [e2, HR, e1] at HE
  have HF : Hid (bits .or .u32 (bits .or .u32 (bits .or .u32 (bits .or .u32 (wordI ((1 : Int).toNat)) (m * 65536)) (n * 32)) d) (imm * 32) = encI 1 d n m imm) := Lib.hid (by rw [show ((1 : Int).toNat) = 1 from rfl, HR]; exact HE)
  clear HE HR e2 e1
  clear h zd zn zm
  go_enter Tryd.func16, Tryd.ntmps16
  go_wp2_with (go_at_call 34; (with_reducible refine (refchk_any 1 d n m imm _).mono ?_); rintro e w' ⟨rfl, hb⟩; rw [HT.out]; obtain ⟨hz, hc, hf⟩ := bcell hb; (try simp only [World.size_alloc, World.size_drew, World.heap_drewN, World.size_setCell] at hz); (try have hs0 : w.heap.size < w'.heap.size := by omega); (try have hs1 : w.heap.size + 1 < w'.heap.size := by omega); (try have hs2 : w.heap.size + 2 < w'.heap.size := by omega))
  (refine region_intro fun W hW => ?_; have hWs0 : w.heap.size ≤ W.heap.size := (by rw [← hW]; (try simp only [World.size_alloc, World.size_drew, World.heap_drewN, World.size_setCell]); omega); have hWB : Hid (Below w.heap.size w W) := Lib.hid (by rw [← hW]; clear hW; exact (by repeat (first | (with_reducible exact Below.refl _ _) | (with_reducible assumption) | (with_reducible refine bthen (by with_reducible assumption) ?_) | (with_reducible refine balloc _ ?_) | (with_reducible refine bdrewN _ ?_) | (with_reducible refine bdrew ?_) | (with_reducible refine bset (by first | exact Nat.le_refl _ | (dsimp only; omega)) ?_)))); have hWb1 : w.heap.size < W.heap.size := (by rw [← hW]; (try simp only [World.size_alloc, World.size_drew, World.heap_drewN, World.size_setCell]); omega); have hWc0 : W.cell? ⟨w.heap.size, 0, none⟩ = some (.int .i8 1) := (by rw [← hW]; clear hW; go_simp); have hWc1 : W.cell? ⟨w.heap.size, 1, none⟩ = some (.int .i8 d) := (by rw [← hW]; clear hW; go_simp); have hWc2 : W.cell? ⟨w.heap.size, 2, none⟩ = some (.int .i8 n) := (by rw [← hW]; clear hW; go_simp); have hWc3 : W.cell? ⟨w.heap.size, 3, none⟩ = some (.int .i8 m) := (by rw [← hW]; clear hW; go_simp); have hWc4 : W.cell? ⟨w.heap.size, 4, none⟩ = some (.int .i64 imm) := (by rw [← hW]; clear hW; go_simp); clear hW; have hrg := @regrown_cells W; refine wp_region_quiet_below (by kernel_rfl) (by kernel_rfl) ?_; (repeat (go_big_quiet_step ((go_at_call 35; refine Calls.regrown_of (refbase_lit 1 _ (by omega)) <;> (first | skip))))); refine wpQuiet_nil ?_; clear hrg; intro W' hW'; have hb := regrown_below hW'; clear hW'; obtain ⟨hz, hc, hf⟩ := bcell hb)
  go_wp2
  have hWo := hWB.out
  go_ret2
  exact ⟨ret2_u32 (HF.out) rfl, (by repeat (first | (with_reducible exact Below.refl _ _) | (with_reducible assumption) | (with_reducible refine bthen (by with_reducible assumption) ?_) | (with_reducible refine balloc _ ?_) | (with_reducible refine bdrewN _ ?_) | (with_reducible refine bdrew ?_) | (with_reducible refine bset (by first | exact Nat.le_refl _ | (dsimp only; omega)) ?_)))⟩
set_option maxRecDepth 100000 in
set_option maxHeartbeats 2000000 in
theorem encodeR_14 (d n m imm : Int) (w : World) (h : okB 14 d n m imm = true) :
    Calls Tryd.prog 16 #[.agg #[.int .i8 14, .int .i8 d, .int .i8 n, .int .i8 m, .int .i64 imm]] w fun e w' => e = .returned (.tuple #[.int .u32 (encI 14 d n m imm), .int .i64 0]) ∧ Below w.heap.size w w' := by
  have HT := Lib.hid (chkA_t h)
  obtain ⟨b0, b1⟩ := immI_bd h
  obtain ⟨_, ⟨d0, d1⟩, ⟨n0, n1⟩, ⟨m0, m1⟩, zd, zn, zm, il, im⟩ := okB_cases h
  have HE := enc_or h (by decide)
  have HR := regs_or (k := 14) (imm := imm) h (by decide)
  have e2 : (if (14 : Int) = 7 ∧ imm < 0 then (3506438144 : Int) else wordI (14 : Int).toNat) = wordI 14 := by simp
  have e1 : immI 14 imm = imm % 67108864 := by simp [immI]
  rw [e2, HR, e1] at HE
  have HF : Hid (bits .or .u32 (bits .or .u32 (bits .or .u32 (bits .or .u32 (wordI ((14 : Int).toNat)) (m * 65536)) (n * 32)) d) (imm % 67108864) = encI 14 d n m imm) := Lib.hid (by rw [show ((14 : Int).toNat) = 14 from rfl, HR]; exact HE)
  have hA := and_low' imm 26 67108864 (by decide) (by decide)
  simp only [show (67108864 : Int) - 1 = 67108863 from rfl] at hA
  clear HE HR e2 e1
  clear h zd zn zm
  go_enter Tryd.func16, Tryd.ntmps16
  go_wp2_with (go_at_call 34; (with_reducible refine (refchk_any 14 d n m imm _).mono ?_); rintro e w' ⟨rfl, hb⟩; rw [HT.out]; obtain ⟨hz, hc, hf⟩ := bcell hb; (try simp only [World.size_alloc, World.size_drew, World.heap_drewN, World.size_setCell] at hz); (try have hs0 : w.heap.size < w'.heap.size := by omega); (try have hs1 : w.heap.size + 1 < w'.heap.size := by omega); (try have hs2 : w.heap.size + 2 < w'.heap.size := by omega))
  (refine region_intro fun W hW => ?_; have hWs0 : w.heap.size ≤ W.heap.size := (by rw [← hW]; (try simp only [World.size_alloc, World.size_drew, World.heap_drewN, World.size_setCell]); omega); have hWB : Hid (Below w.heap.size w W) := Lib.hid (by rw [← hW]; clear hW; exact (by repeat (first | (with_reducible exact Below.refl _ _) | (with_reducible assumption) | (with_reducible refine bthen (by with_reducible assumption) ?_) | (with_reducible refine balloc _ ?_) | (with_reducible refine bdrewN _ ?_) | (with_reducible refine bdrew ?_) | (with_reducible refine bset (by first | exact Nat.le_refl _ | (dsimp only; omega)) ?_)))); have hWb1 : w.heap.size < W.heap.size := (by rw [← hW]; (try simp only [World.size_alloc, World.size_drew, World.heap_drewN, World.size_setCell]); omega); have hWc0 : W.cell? ⟨w.heap.size, 0, none⟩ = some (.int .i8 14) := (by rw [← hW]; clear hW; go_simp); have hWc1 : W.cell? ⟨w.heap.size, 1, none⟩ = some (.int .i8 d) := (by rw [← hW]; clear hW; go_simp); have hWc2 : W.cell? ⟨w.heap.size, 2, none⟩ = some (.int .i8 n) := (by rw [← hW]; clear hW; go_simp); have hWc3 : W.cell? ⟨w.heap.size, 3, none⟩ = some (.int .i8 m) := (by rw [← hW]; clear hW; go_simp); have hWc4 : W.cell? ⟨w.heap.size, 4, none⟩ = some (.int .i64 imm) := (by rw [← hW]; clear hW; go_simp); clear hW; have hrg := @regrown_cells W; refine wp_region_quiet_below (by kernel_rfl) (by kernel_rfl) ?_; (repeat (go_big_quiet_step ((go_at_call 35; refine Calls.regrown_of (refbase_lit 14 _ (by omega)) <;> (first | skip))))); refine wpQuiet_nil ?_; clear hrg; intro W' hW'; have hb := regrown_below hW'; clear hW'; obtain ⟨hz, hc, hf⟩ := bcell hb)
  go_wp2
  have hWo := hWB.out
  go_ret2
  exact ⟨ret2_u32 (HF.out) rfl, (by repeat (first | (with_reducible exact Below.refl _ _) | (with_reducible assumption) | (with_reducible refine bthen (by with_reducible assumption) ?_) | (with_reducible refine balloc _ ?_) | (with_reducible refine bdrewN _ ?_) | (with_reducible refine bdrew ?_) | (with_reducible refine bset (by first | exact Nat.le_refl _ | (dsimp only; omega)) ?_)))⟩
set_option maxRecDepth 100000 in
set_option maxHeartbeats 2000000 in
theorem encodeR_15 (d n m imm : Int) (w : World) (h : okB 15 d n m imm = true) :
    Calls Tryd.prog 16 #[.agg #[.int .i8 15, .int .i8 d, .int .i8 n, .int .i8 m, .int .i64 imm]] w fun e w' => e = .returned (.tuple #[.int .u32 (encI 15 d n m imm), .int .i64 0]) ∧ Below w.heap.size w w' := by
  have HT := Lib.hid (chkA_t h)
  obtain ⟨b0, b1⟩ := immI_bd h
  obtain ⟨_, ⟨d0, d1⟩, ⟨n0, n1⟩, ⟨m0, m1⟩, zd, zn, zm, il, im⟩ := okB_cases h
  have HE := enc_or h (by decide)
  have HR := regs_or (k := 15) (imm := imm) h (by decide)
  have e2 : (if (15 : Int) = 7 ∧ imm < 0 then (3506438144 : Int) else wordI (15 : Int).toNat) = wordI 15 := by simp
  have e1 : immI 15 imm = imm % 524288 * 32 := by simp [immI]
  rw [e2, HR, e1] at HE
  have HF : Hid (bits .or .u32 (bits .or .u32 (bits .or .u32 (bits .or .u32 (wordI ((15 : Int).toNat)) (m * 65536)) (n * 32)) d) (imm % 524288 * 32) = encI 15 d n m imm) := Lib.hid (by rw [show ((15 : Int).toNat) = 15 from rfl, HR]; exact HE)
  have hA := and_low' imm 19 524288 (by decide) (by decide)
  simp only [show (524288 : Int) - 1 = 524287 from rfl] at hA
  have hA0 : 0 ≤ imm % 524288 := by omega
  have hA1 : imm % 524288 < 524288 := by omega
  clear HE HR e2 e1
  clear h zd zn zm
  go_enter Tryd.func16, Tryd.ntmps16
  go_wp2_with (go_at_call 34; (with_reducible refine (refchk_any 15 d n m imm _).mono ?_); rintro e w' ⟨rfl, hb⟩; rw [HT.out]; obtain ⟨hz, hc, hf⟩ := bcell hb; (try simp only [World.size_alloc, World.size_drew, World.heap_drewN, World.size_setCell] at hz); (try have hs0 : w.heap.size < w'.heap.size := by omega); (try have hs1 : w.heap.size + 1 < w'.heap.size := by omega); (try have hs2 : w.heap.size + 2 < w'.heap.size := by omega))
  (refine region_intro fun W hW => ?_; have hWs0 : w.heap.size ≤ W.heap.size := (by rw [← hW]; (try simp only [World.size_alloc, World.size_drew, World.heap_drewN, World.size_setCell]); omega); have hWB : Hid (Below w.heap.size w W) := Lib.hid (by rw [← hW]; clear hW; exact (by repeat (first | (with_reducible exact Below.refl _ _) | (with_reducible assumption) | (with_reducible refine bthen (by with_reducible assumption) ?_) | (with_reducible refine balloc _ ?_) | (with_reducible refine bdrewN _ ?_) | (with_reducible refine bdrew ?_) | (with_reducible refine bset (by first | exact Nat.le_refl _ | (dsimp only; omega)) ?_)))); have hWb1 : w.heap.size < W.heap.size := (by rw [← hW]; (try simp only [World.size_alloc, World.size_drew, World.heap_drewN, World.size_setCell]); omega); have hWc0 : W.cell? ⟨w.heap.size, 0, none⟩ = some (.int .i8 15) := (by rw [← hW]; clear hW; go_simp); have hWc1 : W.cell? ⟨w.heap.size, 1, none⟩ = some (.int .i8 d) := (by rw [← hW]; clear hW; go_simp); have hWc2 : W.cell? ⟨w.heap.size, 2, none⟩ = some (.int .i8 n) := (by rw [← hW]; clear hW; go_simp); have hWc3 : W.cell? ⟨w.heap.size, 3, none⟩ = some (.int .i8 m) := (by rw [← hW]; clear hW; go_simp); have hWc4 : W.cell? ⟨w.heap.size, 4, none⟩ = some (.int .i64 imm) := (by rw [← hW]; clear hW; go_simp); clear hW; have hrg := @regrown_cells W; refine wp_region_quiet_below (by kernel_rfl) (by kernel_rfl) ?_; (repeat (go_big_quiet_step ((go_at_call 35; refine Calls.regrown_of (refbase_lit 15 _ (by omega)) <;> (first | skip))))); refine wpQuiet_nil ?_; clear hrg; intro W' hW'; have hb := regrown_below hW'; clear hW'; obtain ⟨hz, hc, hf⟩ := bcell hb)
  go_wp2
  have hWo := hWB.out
  go_ret2
  exact ⟨ret2_u32 (HF.out) rfl, (by repeat (first | (with_reducible exact Below.refl _ _) | (with_reducible assumption) | (with_reducible refine bthen (by with_reducible assumption) ?_) | (with_reducible refine balloc _ ?_) | (with_reducible refine bdrewN _ ?_) | (with_reducible refine bdrew ?_) | (with_reducible refine bset (by first | exact Nat.le_refl _ | (dsimp only; omega)) ?_)))⟩
set_option maxRecDepth 100000 in
set_option maxHeartbeats 2000000 in
theorem encodeR_16 (d n m imm : Int) (w : World) (h : okB 16 d n m imm = true) :
    Calls Tryd.prog 16 #[.agg #[.int .i8 16, .int .i8 d, .int .i8 n, .int .i8 m, .int .i64 imm]] w fun e w' => e = .returned (.tuple #[.int .u32 (encI 16 d n m imm), .int .i64 0]) ∧ Below w.heap.size w w' := by
  have HT := Lib.hid (chkA_t h)
  obtain ⟨b0, b1⟩ := immI_bd h
  obtain ⟨_, ⟨d0, d1⟩, ⟨n0, n1⟩, ⟨m0, m1⟩, zd, zn, zm, il, im⟩ := okB_cases h
  have HE := enc_or h (by decide)
  have HR := regs_or (k := 16) (imm := imm) h (by decide)
  have e2 : (if (16 : Int) = 7 ∧ imm < 0 then (3506438144 : Int) else wordI (16 : Int).toNat) = wordI 16 := by simp
  have e1 : immI 16 imm = imm % 524288 * 32 := by simp [immI]
  rw [e2, HR, e1] at HE
  have HF : Hid (bits .or .u32 (bits .or .u32 (bits .or .u32 (bits .or .u32 (wordI ((16 : Int).toNat)) (m * 65536)) (n * 32)) d) (imm % 524288 * 32) = encI 16 d n m imm) := Lib.hid (by rw [show ((16 : Int).toNat) = 16 from rfl, HR]; exact HE)
  have hA := and_low' imm 19 524288 (by decide) (by decide)
  simp only [show (524288 : Int) - 1 = 524287 from rfl] at hA
  have hA0 : 0 ≤ imm % 524288 := by omega
  have hA1 : imm % 524288 < 524288 := by omega
  clear HE HR e2 e1
  clear h zd zn zm
  go_enter Tryd.func16, Tryd.ntmps16
  go_wp2_with (go_at_call 34; (with_reducible refine (refchk_any 16 d n m imm _).mono ?_); rintro e w' ⟨rfl, hb⟩; rw [HT.out]; obtain ⟨hz, hc, hf⟩ := bcell hb; (try simp only [World.size_alloc, World.size_drew, World.heap_drewN, World.size_setCell] at hz); (try have hs0 : w.heap.size < w'.heap.size := by omega); (try have hs1 : w.heap.size + 1 < w'.heap.size := by omega); (try have hs2 : w.heap.size + 2 < w'.heap.size := by omega))
  (refine region_intro fun W hW => ?_; have hWs0 : w.heap.size ≤ W.heap.size := (by rw [← hW]; (try simp only [World.size_alloc, World.size_drew, World.heap_drewN, World.size_setCell]); omega); have hWB : Hid (Below w.heap.size w W) := Lib.hid (by rw [← hW]; clear hW; exact (by repeat (first | (with_reducible exact Below.refl _ _) | (with_reducible assumption) | (with_reducible refine bthen (by with_reducible assumption) ?_) | (with_reducible refine balloc _ ?_) | (with_reducible refine bdrewN _ ?_) | (with_reducible refine bdrew ?_) | (with_reducible refine bset (by first | exact Nat.le_refl _ | (dsimp only; omega)) ?_)))); have hWb1 : w.heap.size < W.heap.size := (by rw [← hW]; (try simp only [World.size_alloc, World.size_drew, World.heap_drewN, World.size_setCell]); omega); have hWc0 : W.cell? ⟨w.heap.size, 0, none⟩ = some (.int .i8 16) := (by rw [← hW]; clear hW; go_simp); have hWc1 : W.cell? ⟨w.heap.size, 1, none⟩ = some (.int .i8 d) := (by rw [← hW]; clear hW; go_simp); have hWc2 : W.cell? ⟨w.heap.size, 2, none⟩ = some (.int .i8 n) := (by rw [← hW]; clear hW; go_simp); have hWc3 : W.cell? ⟨w.heap.size, 3, none⟩ = some (.int .i8 m) := (by rw [← hW]; clear hW; go_simp); have hWc4 : W.cell? ⟨w.heap.size, 4, none⟩ = some (.int .i64 imm) := (by rw [← hW]; clear hW; go_simp); clear hW; have hrg := @regrown_cells W; refine wp_region_quiet_below (by kernel_rfl) (by kernel_rfl) ?_; (repeat (go_big_quiet_step ((go_at_call 35; refine Calls.regrown_of (refbase_lit 16 _ (by omega)) <;> (first | skip))))); refine wpQuiet_nil ?_; clear hrg; intro W' hW'; have hb := regrown_below hW'; clear hW'; obtain ⟨hz, hc, hf⟩ := bcell hb)
  go_wp2
  have hWo := hWB.out
  go_ret2
  exact ⟨ret2_u32 (HF.out) rfl, (by repeat (first | (with_reducible exact Below.refl _ _) | (with_reducible assumption) | (with_reducible refine bthen (by with_reducible assumption) ?_) | (with_reducible refine balloc _ ?_) | (with_reducible refine bdrewN _ ?_) | (with_reducible refine bdrew ?_) | (with_reducible refine bset (by first | exact Nat.le_refl _ | (dsimp only; omega)) ?_)))⟩
set_option maxRecDepth 100000 in
set_option maxHeartbeats 2000000 in
theorem encodeR_7 (d n m imm : Int) (w : World) (h : okB 7 d n m imm = true) :
    Calls Tryd.prog 16 #[.agg #[.int .i8 7, .int .i8 d, .int .i8 n, .int .i8 m, .int .i64 imm]] w fun e w' => e = .returned (.tuple #[.int .u32 (encI 7 d n m imm), .int .i64 0]) ∧ Below w.heap.size w w' := by
  have HT := Lib.hid (chkA_t h)
  obtain ⟨b0, b1⟩ := immI_bd h
  obtain ⟨_, ⟨d0, d1⟩, ⟨n0, n1⟩, ⟨m0, m1⟩, zd, zn, zm, il, im⟩ := okB_cases h
  simp [leastI, mostI] at il im
  have hm0 := zm rfl
  have HR := regs_or (k := 7) (imm := imm) h (by decide)
  have HE := enc_or h (by decide)
  by_cases hneg : imm < 0
  · have e2 : (if (7 : Int) = 7 ∧ imm < 0 then (3506438144 : Int) else wordI (7 : Int).toNat) = 3506438144 := by simp [hneg]
    have e1 : immI 7 imm = -imm * 1024 := by simp [immI, hneg]
    have c := chain (B := 3506438144) (by decide) (by decide) ⟨m0, m1⟩ ⟨n0, n1⟩ ⟨d0, d1⟩ (by omega) (by omega) (by omega)
    have o := orf' (x := regsI 7 d n m) (v := 1) (p := 1073741824) (q := 2) 30 1 (by decide) (by decide) (by decide) (by simp [regsI, wordI]; omega) (by simp [regsI, wordI]; omega) (by decide) (by decide) (by simp [regsI, wordI]; omega)
    have o2 : regsI 7 d n m + 1 * 1073741824 = 3506438144 + m * 65536 + n * 32 + d := by simp [regsI, wordI]; omega
    have HF : Hid (bits .or .u32 (bits .or .u32 (bits .or .u32 (bits .or .u32 (bits .or .u32 (wordI ((7 : Int).toNat)) (m * 65536)) (n * 32)) d) 1073741824) (-imm * 1024) = encI 7 d n m imm) := Lib.hid (by
      rw [show ((7 : Int).toNat) = 7 from rfl, HR]
      rw [e2, c, e1] at HE
      rw [Int.one_mul] at o
      rw [o]
      rw [Int.one_mul] at o2
      rw [o2]
      exact HE)
    clear h zd zn zm HR HE e2 e1 c o o2 hm0
    go_enter Tryd.func16, Tryd.ntmps16
    go_wp2_with (go_at_call 34; (with_reducible refine (refchk_any 7 d n m imm _).mono ?_); rintro e w' ⟨rfl, hb⟩; rw [HT.out]; obtain ⟨hz, hc, hf⟩ := bcell hb; (try simp only [World.size_alloc, World.size_drew, World.heap_drewN, World.size_setCell] at hz); (try have hs0 : w.heap.size < w'.heap.size := by omega); (try have hs1 : w.heap.size + 1 < w'.heap.size := by omega); (try have hs2 : w.heap.size + 2 < w'.heap.size := by omega))
    (refine region_intro fun W hW => ?_; have hWs0 : w.heap.size ≤ W.heap.size := (by rw [← hW]; (try simp only [World.size_alloc, World.size_drew, World.heap_drewN, World.size_setCell]); omega); have hWB : Hid (Below w.heap.size w W) := Lib.hid (by rw [← hW]; clear hW; exact (by repeat (first | (with_reducible exact Below.refl _ _) | (with_reducible assumption) | (with_reducible refine bthen (by with_reducible assumption) ?_) | (with_reducible refine balloc _ ?_) | (with_reducible refine bdrewN _ ?_) | (with_reducible refine bdrew ?_) | (with_reducible refine bset (by first | exact Nat.le_refl _ | (dsimp only; omega)) ?_)))); have hWb1 : w.heap.size < W.heap.size := (by rw [← hW]; (try simp only [World.size_alloc, World.size_drew, World.heap_drewN, World.size_setCell]); omega); have hWc0 : W.cell? ⟨w.heap.size, 0, none⟩ = some (.int .i8 7) := (by rw [← hW]; clear hW; go_simp); have hWc1 : W.cell? ⟨w.heap.size, 1, none⟩ = some (.int .i8 d) := (by rw [← hW]; clear hW; go_simp); have hWc2 : W.cell? ⟨w.heap.size, 2, none⟩ = some (.int .i8 n) := (by rw [← hW]; clear hW; go_simp); have hWc3 : W.cell? ⟨w.heap.size, 3, none⟩ = some (.int .i8 m) := (by rw [← hW]; clear hW; go_simp); have hWc4 : W.cell? ⟨w.heap.size, 4, none⟩ = some (.int .i64 imm) := (by rw [← hW]; clear hW; go_simp); clear hW; have hrg := @regrown_cells W; refine wp_region_quiet_below (by kernel_rfl) (by kernel_rfl) ?_; (repeat (go_big_quiet_step ((go_at_call 35; refine Calls.regrown_of (refbase_lit 7 _ (by omega)) <;> (first | skip))))); refine wpQuiet_nil ?_; clear hrg; intro W' hW'; have hb := regrown_below hW'; clear hW'; obtain ⟨hz, hc, hf⟩ := bcell hb)
    go_wp2
    have hWo := hWB.out
    go_ret2
    exact ⟨ret2_u32 (HF.out) rfl, (by repeat (first | (with_reducible exact Below.refl _ _) | (with_reducible assumption) | (with_reducible refine bthen (by with_reducible assumption) ?_) | (with_reducible refine balloc _ ?_) | (with_reducible refine bdrewN _ ?_) | (with_reducible refine bdrew ?_) | (with_reducible refine bset (by first | exact Nat.le_refl _ | (dsimp only; omega)) ?_)))⟩
  · have e2 : (if (7 : Int) = 7 ∧ imm < 0 then (3506438144 : Int) else wordI (7 : Int).toNat) = wordI 7 := by simp [hneg]
    have e1 : immI 7 imm = imm * 1024 := by simp [immI, hneg]
    have HF : Hid (bits .or .u32 (bits .or .u32 (bits .or .u32 (bits .or .u32 (wordI ((7 : Int).toNat)) (m * 65536)) (n * 32)) d) (imm * 1024) = encI 7 d n m imm) := Lib.hid (by
      rw [show ((7 : Int).toNat) = 7 from rfl, HR]
      rw [e2, HR, e1] at HE
      exact HE)
    have hneg' : 0 ≤ imm := by omega
    clear h zd zn zm HR HE e2 e1 hneg hm0
    go_enter Tryd.func16, Tryd.ntmps16
    go_wp2_with (go_at_call 34; (with_reducible refine (refchk_any 7 d n m imm _).mono ?_); rintro e w' ⟨rfl, hb⟩; rw [HT.out]; obtain ⟨hz, hc, hf⟩ := bcell hb; (try simp only [World.size_alloc, World.size_drew, World.heap_drewN, World.size_setCell] at hz); (try have hs0 : w.heap.size < w'.heap.size := by omega); (try have hs1 : w.heap.size + 1 < w'.heap.size := by omega); (try have hs2 : w.heap.size + 2 < w'.heap.size := by omega))
    (refine region_intro fun W hW => ?_; have hWs0 : w.heap.size ≤ W.heap.size := (by rw [← hW]; (try simp only [World.size_alloc, World.size_drew, World.heap_drewN, World.size_setCell]); omega); have hWB : Hid (Below w.heap.size w W) := Lib.hid (by rw [← hW]; clear hW; exact (by repeat (first | (with_reducible exact Below.refl _ _) | (with_reducible assumption) | (with_reducible refine bthen (by with_reducible assumption) ?_) | (with_reducible refine balloc _ ?_) | (with_reducible refine bdrewN _ ?_) | (with_reducible refine bdrew ?_) | (with_reducible refine bset (by first | exact Nat.le_refl _ | (dsimp only; omega)) ?_)))); have hWb1 : w.heap.size < W.heap.size := (by rw [← hW]; (try simp only [World.size_alloc, World.size_drew, World.heap_drewN, World.size_setCell]); omega); have hWc0 : W.cell? ⟨w.heap.size, 0, none⟩ = some (.int .i8 7) := (by rw [← hW]; clear hW; go_simp); have hWc1 : W.cell? ⟨w.heap.size, 1, none⟩ = some (.int .i8 d) := (by rw [← hW]; clear hW; go_simp); have hWc2 : W.cell? ⟨w.heap.size, 2, none⟩ = some (.int .i8 n) := (by rw [← hW]; clear hW; go_simp); have hWc3 : W.cell? ⟨w.heap.size, 3, none⟩ = some (.int .i8 m) := (by rw [← hW]; clear hW; go_simp); have hWc4 : W.cell? ⟨w.heap.size, 4, none⟩ = some (.int .i64 imm) := (by rw [← hW]; clear hW; go_simp); clear hW; have hrg := @regrown_cells W; refine wp_region_quiet_below (by kernel_rfl) (by kernel_rfl) ?_; (repeat (go_big_quiet_step ((go_at_call 35; refine Calls.regrown_of (refbase_lit 7 _ (by omega)) <;> (first | skip))))); refine wpQuiet_nil ?_; clear hrg; intro W' hW'; have hb := regrown_below hW'; clear hW'; obtain ⟨hz, hc, hf⟩ := bcell hb)
    go_wp2
    have hWo := hWB.out
    go_ret2
    exact ⟨ret2_u32 (HF.out) rfl, (by repeat (first | (with_reducible exact Below.refl _ _) | (with_reducible assumption) | (with_reducible refine bthen (by with_reducible assumption) ?_) | (with_reducible refine balloc _ ?_) | (with_reducible refine bdrewN _ ?_) | (with_reducible refine bdrew ?_) | (with_reducible refine bset (by first | exact Nat.le_refl _ | (dsimp only; omega)) ?_)))⟩
set_option maxRecDepth 100000 in
set_option maxHeartbeats 2000000 in
theorem encodeR_rest (k : Nat) (d n m imm : Int) (w : World) (h : okB k d n m imm = true) (hk : k < 18) (h1 : k ≠ 1) (h7 : k ≠ 7) (h14 : k ≠ 14) (h15 : k ≠ 15) (h16 : k ≠ 16) :
    Calls Tryd.prog 16 #[.agg #[.int .i8 k, .int .i8 d, .int .i8 n, .int .i8 m, .int .i64 imm]] w fun e w' => e = .returned (.tuple #[.int .u32 (encI k d n m imm), .int .i64 0]) ∧ Below w.heap.size w w' := by
  have HT := Lib.hid (chkA_t h)
  obtain ⟨b0, b1⟩ := immI_bd h
  obtain ⟨_, ⟨d0, d1⟩, ⟨n0, n1⟩, ⟨m0, m1⟩, zd, zn, zm, il, im⟩ := okB_cases h
  have HR := regs_or (imm := imm) h hk
  have e1 : immI k imm = 0 := by
    simp only [immI]; rw [if_neg (by omega), if_neg (by omega), if_neg (by omega), if_neg (by omega)]
  have HF : Hid (bits .or .u32 (bits .or .u32 (bits .or .u32 (wordI k) (m * 65536)) (n * 32)) d = encI k d n m imm) := Lib.hid (by
    rw [HR, encI, e1, if_neg (by omega), regsI]; simp)
  have k18 : ((k : Int) == 18) = false := by rw [beq_eq_false_iff_ne]; omega
  have k1 : ((k : Int) == 1) = false := by rw [beq_eq_false_iff_ne]; omega
  have k7 : ((k : Int) == 7) = false := by rw [beq_eq_false_iff_ne]; omega
  have k14 : ((k : Int) == 14) = false := by rw [beq_eq_false_iff_ne]; omega
  have k15 : ((k : Int) == 15) = false := by rw [beq_eq_false_iff_ne]; omega
  have k16 : ((k : Int) == 16) = false := by rw [beq_eq_false_iff_ne]; omega
  clear h zd zn zm HR e1 h1 h7 h14 h15 h16
  go_enter Tryd.func16, Tryd.ntmps16
  go_wp2_with (go_at_call 34; (with_reducible refine (refchk_any k d n m imm _).mono ?_); rintro e w' ⟨rfl, hb⟩; rw [HT.out]; obtain ⟨hz, hc, hf⟩ := bcell hb; (try simp only [World.size_alloc, World.size_drew, World.heap_drewN, World.size_setCell] at hz); (try have hs0 : w.heap.size < w'.heap.size := by omega); (try have hs1 : w.heap.size + 1 < w'.heap.size := by omega); (try have hs2 : w.heap.size + 2 < w'.heap.size := by omega))
  (refine region_intro fun W hW => ?_; have hWs0 : w.heap.size ≤ W.heap.size := (by rw [← hW]; (try simp only [World.size_alloc, World.size_drew, World.heap_drewN, World.size_setCell]); omega); have hWB : Hid (Below w.heap.size w W) := Lib.hid (by rw [← hW]; clear hW; exact (by repeat (first | (with_reducible exact Below.refl _ _) | (with_reducible assumption) | (with_reducible refine bthen (by with_reducible assumption) ?_) | (with_reducible refine balloc _ ?_) | (with_reducible refine bdrewN _ ?_) | (with_reducible refine bdrew ?_) | (with_reducible refine bset (by first | exact Nat.le_refl _ | (dsimp only; omega)) ?_)))); have hWb1 : w.heap.size < W.heap.size := (by rw [← hW]; (try simp only [World.size_alloc, World.size_drew, World.heap_drewN, World.size_setCell]); omega); have hWc0 : W.cell? ⟨w.heap.size, 0, none⟩ = some (.int .i8 k) := (by rw [← hW]; clear hW; go_simp); have hWc1 : W.cell? ⟨w.heap.size, 1, none⟩ = some (.int .i8 d) := (by rw [← hW]; clear hW; go_simp); have hWc2 : W.cell? ⟨w.heap.size, 2, none⟩ = some (.int .i8 n) := (by rw [← hW]; clear hW; go_simp); have hWc3 : W.cell? ⟨w.heap.size, 3, none⟩ = some (.int .i8 m) := (by rw [← hW]; clear hW; go_simp); have hWc4 : W.cell? ⟨w.heap.size, 4, none⟩ = some (.int .i64 imm) := (by rw [← hW]; clear hW; go_simp); clear hW; have hrg := @regrown_cells W; refine wp_region_quiet_below (by kernel_rfl) (by kernel_rfl) ?_; (repeat (go_big_quiet_step ((go_at_call 35; refine Calls.regrown_of (refbase_in k _ (by omega)) <;> (first | skip))))); refine wpQuiet_nil ?_; clear hrg; intro W' hW'; have hb := regrown_below hW'; clear hW'; obtain ⟨hz, hc, hf⟩ := bcell hb)
  go_wp2
  have hWo := hWB.out
  go_ret2
  exact ⟨ret2_u32 (HF.out) rfl, (by repeat (first | (with_reducible exact Below.refl _ _) | (with_reducible assumption) | (with_reducible refine bthen (by with_reducible assumption) ?_) | (with_reducible refine balloc _ ?_) | (with_reducible refine bdrewN _ ?_) | (with_reducible refine bdrew ?_) | (with_reducible refine bset (by first | exact Nat.le_refl _ | (dsimp only; omega)) ?_)))⟩
theorem encodeR_any (op d n m imm : Int) (w : World) :
    Calls Tryd.prog 16 #[.agg #[.int .i8 op, .int .i8 d, .int .i8 n, .int .i8 m, .int .i64 imm]] w fun e w' => e = .returned (encV op d n m imm) ∧ Below w.heap.size w w' := by
  by_cases h : okB op d n m imm = true
  · by_cases h8 : op = 18
    · subst h8
      rw [encV_f (.inr rfl)]
      exact encodeR_18 d n m imm w h
    · rw [encV_t h h8]
      have h0 := (okB_cases h).1
      by_cases h1 : op = 1
      · subst h1; exact encodeR_1 d n m imm w h
      by_cases h7 : op = 7
      · subst h7; exact encodeR_7 d n m imm w h
      by_cases h14 : op = 14
      · subst h14; exact encodeR_14 d n m imm w h
      by_cases h15 : op = 15
      · subst h15; exact encodeR_15 d n m imm w h
      by_cases h16 : op = 16
      · subst h16; exact encodeR_16 d n m imm w h
      obtain ⟨k, rfl⟩ := Int.eq_ofNat_of_zero_le h0.1
      exact encodeR_rest k d n m imm w h (by omega) (by omega) (by omega) (by omega) (by omega) (by omega)
  · rw [encV_f (.inl (by simpa using h))]
    exact encodeR_no op d n m imm w (by simpa using h)
end Go.Proofs.YtailocbophkmmaaDoor
