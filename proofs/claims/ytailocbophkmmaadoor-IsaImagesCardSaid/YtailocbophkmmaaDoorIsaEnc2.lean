/-
  Package isa: Encode's walk.
-/
import Derived.Test.YtailocbophkmmaaDoorIsaEnc
namespace Go.Proofs.YtailocbophkmmaaDoor
open Go.RowKit FP

theorem immI_bd {op d n m imm : Int} (h : okB op d n m imm = true) : 0 ≤ immI op imm ∧ immI op imm < 67108864 := by
  obtain ⟨h0, hd, hn, hm, zd, zn, zm, il, im⟩ := okB_cases h
  unfold immI
  split
  · rename_i e; subst e; simp [leastI, mostI] at il im; omega
  split
  · rename_i e; subst e; simp [leastI, mostI] at il im; split <;> omega
  split
  · omega
  split <;> omega
def encV (op d n m imm : Int) : Value := if okB op d n m imm && decide (op ≠ 18) then .tuple #[.int .u32 (encI op d n m imm), .int .i64 0] else .tuple #[.int .u32 0, .int .i64 60]
theorem ret2_u32 {a b c d : Int} (h : a = b) (h' : c = d) : Ending.returned (.tuple #[.int .u32 a, .int .i64 c]) = .returned (.tuple #[.int .u32 b, .int .i64 d]) := by rw [h, h']
theorem chkA_t {op d n m imm : Int} (h : okB op d n m imm = true) : chkA op d n m imm = 0 := by simp [chkA, h]
theorem chkA_f {op d n m imm : Int} (h : okB op d n m imm = false) : chkA op d n m imm = 60 := by simp [chkA, h]
theorem encV_t {op d n m imm : Int} (h : okB op d n m imm = true) (h8 : op ≠ 18) : encV op d n m imm = .tuple #[.int .u32 (encI op d n m imm), .int .i64 0] := by simp [encV, h, h8]
theorem encV_f {op d n m imm : Int} (h : okB op d n m imm = false ∨ op = 18) : encV op d n m imm = .tuple #[.int .u32 0, .int .i64 60] := by rcases h with h | h <;> simp [encV, h]
theorem encodeI_no (op d n m imm : Int) (w : World) (hS : Shapes w) (h : okB op d n m imm = false) :
    Calls Tryd.prog 15 #[.agg #[.int .i8 op, .int .i8 d, .int .i8 n, .int .i8 m, .int .i64 imm]] w fun e w' => e = .returned (.tuple #[.int .u32 0, .int .i64 60]) ∧ Below w.heap.size w w' := by
  have HT := Lib.hid (chkA_f h)
  clear h
  go_enter Tryd.func15, Tryd.ntmps15
  go_wp2_with (go_at_call 19; (with_reducible refine (checkA_any op d n m imm _ (hS.below (by repeat (first | (with_reducible exact Below.refl _ _) | (with_reducible assumption) | (with_reducible refine bthen (by with_reducible assumption) ?_) | (with_reducible refine balloc _ ?_) | (with_reducible refine bdrewN _ ?_) | (with_reducible refine bdrew ?_) | (with_reducible refine bset (by first | exact Nat.le_refl _ | (dsimp only; omega)) ?_))))).mono ?_); rintro e w' ⟨rfl, hb⟩; rw [HT.out]; obtain ⟨hz, hc, hf⟩ := bcell hb; (try simp only [World.size_alloc, World.size_drew, World.heap_drewN, World.size_setCell] at hz); (try have hs0 : w.heap.size < w'.heap.size := by omega); (try have hs1 : w.heap.size + 1 < w'.heap.size := by omega); (try have hs2 : w.heap.size + 2 < w'.heap.size := by omega))
  go_ret2
  exact ⟨rfl, (by repeat (first | (with_reducible exact Below.refl _ _) | (with_reducible assumption) | (with_reducible refine bthen (by with_reducible assumption) ?_) | (with_reducible refine balloc _ ?_) | (with_reducible refine bdrewN _ ?_) | (with_reducible refine bdrew ?_) | (with_reducible refine bset (by first | exact Nat.le_refl _ | (dsimp only; omega)) ?_)))⟩
theorem encodeI_18 (d n m imm : Int) (w : World) (hS : Shapes w) (h : okB 18 d n m imm = true) :
    Calls Tryd.prog 15 #[.agg #[.int .i8 18, .int .i8 d, .int .i8 n, .int .i8 m, .int .i64 imm]] w fun e w' => e = .returned (.tuple #[.int .u32 0, .int .i64 60]) ∧ Below w.heap.size w w' := by
  have HT := Lib.hid (chkA_t h)
  clear h
  go_enter Tryd.func15, Tryd.ntmps15
  go_wp2_with (go_at_call 19; (with_reducible refine (checkA_any 18 d n m imm _ (hS.below (by repeat (first | (with_reducible exact Below.refl _ _) | (with_reducible assumption) | (with_reducible refine bthen (by with_reducible assumption) ?_) | (with_reducible refine balloc _ ?_) | (with_reducible refine bdrewN _ ?_) | (with_reducible refine bdrew ?_) | (with_reducible refine bset (by first | exact Nat.le_refl _ | (dsimp only; omega)) ?_))))).mono ?_); rintro e w' ⟨rfl, hb⟩; rw [HT.out]; obtain ⟨hz, hc, hf⟩ := bcell hb; (try simp only [World.size_alloc, World.size_drew, World.heap_drewN, World.size_setCell] at hz); (try have hs0 : w.heap.size < w'.heap.size := by omega); (try have hs1 : w.heap.size + 1 < w'.heap.size := by omega); (try have hs2 : w.heap.size + 2 < w'.heap.size := by omega))
  go_ret2
  exact ⟨rfl, (by repeat (first | (with_reducible exact Below.refl _ _) | (with_reducible assumption) | (with_reducible refine bthen (by with_reducible assumption) ?_) | (with_reducible refine balloc _ ?_) | (with_reducible refine bdrewN _ ?_) | (with_reducible refine bdrew ?_) | (with_reducible refine bset (by first | exact Nat.le_refl _ | (dsimp only; omega)) ?_)))⟩
set_option maxRecDepth 100000 in
set_option maxHeartbeats 2000000 in
theorem encodeI_yes (k : Nat) (d n m imm : Int) (w : World) (hS : Shapes w) (hW : Words w) (h : okB k d n m imm = true) (hk : k < 18) (hk7 : k ≠ 7) (hi0 : -9223372036854775808 ≤ imm) (hi1 : imm ≤ 9223372036854775807) :
    Calls Tryd.prog 15 #[.agg #[.int .i8 k, .int .i8 d, .int .i8 n, .int .i8 m, .int .i64 imm]] w fun e w' => e = .returned (.tuple #[.int .u32 (encI k d n m imm), .int .i64 0]) ∧ Below w.heap.size w w' := by
  have HT := Lib.hid (chkA_t h)
  obtain ⟨b0, b1⟩ := immI_bd h
  obtain ⟨_, ⟨d0, d1⟩, ⟨n0, n1⟩, ⟨m0, m1⟩, _, _, _, il, im⟩ := okB_cases h
  have HE := Lib.hid (enc_or h (by omega))
  have HS := Lib.hid hS
  have h1 : (k : Int) = 1 → 0 ≤ imm ∧ imm ≤ 65535 := by
    intro e; obtain rfl : k = 1 := by omega
    simp [leastI, mostI] at il im; omega
  have h7 : (k : Int) = 7 → -2048 ≤ imm ∧ imm ≤ 2047 := by intro e; omega
  have HI := Lib.hid (fun W => imm_any k d n m imm W h1 h7 hi0 hi1)
  have g := hW k (by omega)
  have hgl : 1 < w.heap.size := World.block_lt_of_cell? w _ g
  have hgl1 : 1 < w.heap.size + 1 := by omega
  have hk18 : ((k : Int) == 18) = false := by rw [beq_eq_false_iff_ne]; omega
  have hk7b : ((k : Int) == 7) = false := by rw [beq_eq_false_iff_ne]; omega
  have e2 : (if (k : Int) = 7 ∧ imm < 0 then (3506438144 : Int) else wordI (k : Int).toNat) = wordI k := by rw [if_neg (by omega)]; rfl
  rw [e2] at HE
  clear h h1 h7 hS hW il im e2
  go_enter Tryd.func15, Tryd.ntmps15
  go_wp2_with (go_at_call 19; (with_reducible refine (checkA_any k d n m imm _ (HS.out.below (by repeat (first | (with_reducible exact Below.refl _ _) | (with_reducible assumption) | (with_reducible refine bthen (by with_reducible assumption) ?_) | (with_reducible refine balloc _ ?_) | (with_reducible refine bdrewN _ ?_) | (with_reducible refine bdrew ?_) | (with_reducible refine bset (by first | exact Nat.le_refl _ | (dsimp only; omega)) ?_))))).mono ?_); rintro e w' ⟨rfl, hb⟩; rw [HT.out]; obtain ⟨hz, hc, hf⟩ := bcell hb; (try simp only [World.size_alloc, World.size_drew, World.heap_drewN, World.size_setCell] at hz); (try have hs0 : w.heap.size < w'.heap.size := by omega); (try have hs1 : w.heap.size + 1 < w'.heap.size := by omega); (try have hs2 : w.heap.size + 2 < w'.heap.size := by omega))
  (refine region_intro fun W hW => ?_; have hWs0 : w.heap.size ≤ W.heap.size := (by rw [← hW]; (try simp only [World.size_alloc, World.size_drew, World.heap_drewN, World.size_setCell]); omega); have hWB : Hid (Below w.heap.size w W) := Lib.hid (by rw [← hW]; clear hW; exact (by repeat (first | (with_reducible exact Below.refl _ _) | (with_reducible assumption) | (with_reducible refine bthen (by with_reducible assumption) ?_) | (with_reducible refine balloc _ ?_) | (with_reducible refine bdrewN _ ?_) | (with_reducible refine bdrew ?_) | (with_reducible refine bset (by first | exact Nat.le_refl _ | (dsimp only; omega)) ?_)))); have hWb1 : w.heap.size < W.heap.size := (by rw [← hW]; (try simp only [World.size_alloc, World.size_drew, World.heap_drewN, World.size_setCell]); omega); have hWc0 : W.cell? ⟨w.heap.size, 0, none⟩ = some (.int .i8 k) := (by rw [← hW]; clear hW; go_simp); have hWc1 : W.cell? ⟨w.heap.size, 1, none⟩ = some (.int .i8 d) := (by rw [← hW]; clear hW; go_simp); have hWc2 : W.cell? ⟨w.heap.size, 2, none⟩ = some (.int .i8 n) := (by rw [← hW]; clear hW; go_simp); have hWc3 : W.cell? ⟨w.heap.size, 3, none⟩ = some (.int .i8 m) := (by rw [← hW]; clear hW; go_simp); have hWc4 : W.cell? ⟨w.heap.size, 4, none⟩ = some (.int .i64 imm) := (by rw [← hW]; clear hW; go_simp); clear hW; have hrg := @regrown_cells W; refine wp_region_quiet_below (by kernel_rfl) (by kernel_rfl) ?_; (repeat (go_big_quiet_step ((go_at_call 33; refine Calls.regrown_of (HI.out _) <;> (first | skip))))); refine wpQuiet_nil ?_; clear hrg; intro W' hW'; have hb := regrown_below hW'; clear hW'; obtain ⟨hz, hc, hf⟩ := bcell hb)
  go_wp2
  have hWo := hWB.out
  go_ret2
  exact ⟨ret2_u32 (HE.out) rfl, (by repeat (first | (with_reducible exact Below.refl _ _) | (with_reducible assumption) | (with_reducible refine bthen (by with_reducible assumption) ?_) | (with_reducible refine balloc _ ?_) | (with_reducible refine bdrewN _ ?_) | (with_reducible refine bdrew ?_) | (with_reducible refine bset (by first | exact Nat.le_refl _ | (dsimp only; omega)) ?_)))⟩
set_option maxRecDepth 100000 in
set_option maxHeartbeats 2000000 in
theorem encodeI_7 (d n m imm : Int) (w : World) (hS : Shapes w) (hW : Words w) (h : okB 7 d n m imm = true) (hi0 : -9223372036854775808 ≤ imm) (hi1 : imm ≤ 9223372036854775807) :
    Calls Tryd.prog 15 #[.agg #[.int .i8 7, .int .i8 d, .int .i8 n, .int .i8 m, .int .i64 imm]] w fun e w' => e = .returned (.tuple #[.int .u32 (encI 7 d n m imm), .int .i64 0]) ∧ Below w.heap.size w w' := by
  have HT := Lib.hid (chkA_t h)
  obtain ⟨b0, b1⟩ := immI_bd h
  obtain ⟨_, ⟨d0, d1⟩, ⟨n0, n1⟩, ⟨m0, m1⟩, _, _, _, il, im⟩ := okB_cases h
  have HE := Lib.hid (enc_or h (by omega))
  have HS := Lib.hid hS
  have h7 : -2048 ≤ imm ∧ imm ≤ 2047 := by simp [leastI, mostI] at il im; omega
  have HI := Lib.hid (fun W => imm_any 7 d n m imm W (fun e => by omega) (fun _ => h7) hi0 hi1)
  have g := hW 7 (by omega)
  have hgl : 1 < w.heap.size := World.block_lt_of_cell? w _ g
  have hgl1 : 1 < w.heap.size + 1 := by omega
  clear h hS hW il im
  by_cases hneg : imm < 0
  · have e2 : (if (7 : Int) = 7 ∧ imm < 0 then (3506438144 : Int) else wordI (7 : Int).toNat) = 3506438144 := by simp [hneg]
    rw [e2] at HE
    clear e2
    go_enter Tryd.func15, Tryd.ntmps15
    go_wp2_with (go_at_call 19; (with_reducible refine (checkA_any 7 d n m imm _ (HS.out.below (by repeat (first | (with_reducible exact Below.refl _ _) | (with_reducible assumption) | (with_reducible refine bthen (by with_reducible assumption) ?_) | (with_reducible refine balloc _ ?_) | (with_reducible refine bdrewN _ ?_) | (with_reducible refine bdrew ?_) | (with_reducible refine bset (by first | exact Nat.le_refl _ | (dsimp only; omega)) ?_))))).mono ?_); rintro e w' ⟨rfl, hb⟩; rw [HT.out]; obtain ⟨hz, hc, hf⟩ := bcell hb; (try simp only [World.size_alloc, World.size_drew, World.heap_drewN, World.size_setCell] at hz); (try have hs0 : w.heap.size < w'.heap.size := by omega); (try have hs1 : w.heap.size + 1 < w'.heap.size := by omega); (try have hs2 : w.heap.size + 2 < w'.heap.size := by omega))
    (refine region_intro fun W hW => ?_; have hWs0 : w.heap.size ≤ W.heap.size := (by rw [← hW]; (try simp only [World.size_alloc, World.size_drew, World.heap_drewN, World.size_setCell]); omega); have hWB : Hid (Below w.heap.size w W) := Lib.hid (by rw [← hW]; clear hW; exact (by repeat (first | (with_reducible exact Below.refl _ _) | (with_reducible assumption) | (with_reducible refine bthen (by with_reducible assumption) ?_) | (with_reducible refine balloc _ ?_) | (with_reducible refine bdrewN _ ?_) | (with_reducible refine bdrew ?_) | (with_reducible refine bset (by first | exact Nat.le_refl _ | (dsimp only; omega)) ?_)))); have hWb1 : w.heap.size < W.heap.size := (by rw [← hW]; (try simp only [World.size_alloc, World.size_drew, World.heap_drewN, World.size_setCell]); omega); have hWc0 : W.cell? ⟨w.heap.size, 0, none⟩ = some (.int .i8 7) := (by rw [← hW]; clear hW; go_simp); have hWc1 : W.cell? ⟨w.heap.size, 1, none⟩ = some (.int .i8 d) := (by rw [← hW]; clear hW; go_simp); have hWc2 : W.cell? ⟨w.heap.size, 2, none⟩ = some (.int .i8 n) := (by rw [← hW]; clear hW; go_simp); have hWc3 : W.cell? ⟨w.heap.size, 3, none⟩ = some (.int .i8 m) := (by rw [← hW]; clear hW; go_simp); have hWc4 : W.cell? ⟨w.heap.size, 4, none⟩ = some (.int .i64 imm) := (by rw [← hW]; clear hW; go_simp); clear hW; have hrg := @regrown_cells W; refine wp_region_quiet_below (by kernel_rfl) (by kernel_rfl) ?_; (repeat (go_big_quiet_step ((go_at_call 33; refine Calls.regrown_of (HI.out _) <;> (first | skip))))); refine wpQuiet_nil ?_; clear hrg; intro W' hW'; have hb := regrown_below hW'; clear hW'; obtain ⟨hz, hc, hf⟩ := bcell hb)
    go_wp2
    have hWo := hWB.out
    go_ret2
    exact ⟨ret2_u32 (HE.out) rfl, (by repeat (first | (with_reducible exact Below.refl _ _) | (with_reducible assumption) | (with_reducible refine bthen (by with_reducible assumption) ?_) | (with_reducible refine balloc _ ?_) | (with_reducible refine bdrewN _ ?_) | (with_reducible refine bdrew ?_) | (with_reducible refine bset (by first | exact Nat.le_refl _ | (dsimp only; omega)) ?_)))⟩
  · have e2 : (if (7 : Int) = 7 ∧ imm < 0 then (3506438144 : Int) else wordI (7 : Int).toNat) = wordI 7 := by simp [hneg]
    rw [e2] at HE
    have hneg' : 0 ≤ imm := by omega
    clear e2 hneg
    go_enter Tryd.func15, Tryd.ntmps15
    go_wp2_with (go_at_call 19; (with_reducible refine (checkA_any 7 d n m imm _ (HS.out.below (by repeat (first | (with_reducible exact Below.refl _ _) | (with_reducible assumption) | (with_reducible refine bthen (by with_reducible assumption) ?_) | (with_reducible refine balloc _ ?_) | (with_reducible refine bdrewN _ ?_) | (with_reducible refine bdrew ?_) | (with_reducible refine bset (by first | exact Nat.le_refl _ | (dsimp only; omega)) ?_))))).mono ?_); rintro e w' ⟨rfl, hb⟩; rw [HT.out]; obtain ⟨hz, hc, hf⟩ := bcell hb; (try simp only [World.size_alloc, World.size_drew, World.heap_drewN, World.size_setCell] at hz); (try have hs0 : w.heap.size < w'.heap.size := by omega); (try have hs1 : w.heap.size + 1 < w'.heap.size := by omega); (try have hs2 : w.heap.size + 2 < w'.heap.size := by omega))
    (refine region_intro fun W hW => ?_; have hWs0 : w.heap.size ≤ W.heap.size := (by rw [← hW]; (try simp only [World.size_alloc, World.size_drew, World.heap_drewN, World.size_setCell]); omega); have hWB : Hid (Below w.heap.size w W) := Lib.hid (by rw [← hW]; clear hW; exact (by repeat (first | (with_reducible exact Below.refl _ _) | (with_reducible assumption) | (with_reducible refine bthen (by with_reducible assumption) ?_) | (with_reducible refine balloc _ ?_) | (with_reducible refine bdrewN _ ?_) | (with_reducible refine bdrew ?_) | (with_reducible refine bset (by first | exact Nat.le_refl _ | (dsimp only; omega)) ?_)))); have hWb1 : w.heap.size < W.heap.size := (by rw [← hW]; (try simp only [World.size_alloc, World.size_drew, World.heap_drewN, World.size_setCell]); omega); have hWc0 : W.cell? ⟨w.heap.size, 0, none⟩ = some (.int .i8 7) := (by rw [← hW]; clear hW; go_simp); have hWc1 : W.cell? ⟨w.heap.size, 1, none⟩ = some (.int .i8 d) := (by rw [← hW]; clear hW; go_simp); have hWc2 : W.cell? ⟨w.heap.size, 2, none⟩ = some (.int .i8 n) := (by rw [← hW]; clear hW; go_simp); have hWc3 : W.cell? ⟨w.heap.size, 3, none⟩ = some (.int .i8 m) := (by rw [← hW]; clear hW; go_simp); have hWc4 : W.cell? ⟨w.heap.size, 4, none⟩ = some (.int .i64 imm) := (by rw [← hW]; clear hW; go_simp); clear hW; have hrg := @regrown_cells W; refine wp_region_quiet_below (by kernel_rfl) (by kernel_rfl) ?_; (repeat (go_big_quiet_step ((go_at_call 33; refine Calls.regrown_of (HI.out _) <;> (first | skip))))); refine wpQuiet_nil ?_; clear hrg; intro W' hW'; have hb := regrown_below hW'; clear hW'; obtain ⟨hz, hc, hf⟩ := bcell hb)
    go_wp2
    have hWo := hWB.out
    go_ret2
    exact ⟨ret2_u32 (HE.out) rfl, (by repeat (first | (with_reducible exact Below.refl _ _) | (with_reducible assumption) | (with_reducible refine bthen (by with_reducible assumption) ?_) | (with_reducible refine balloc _ ?_) | (with_reducible refine bdrewN _ ?_) | (with_reducible refine bdrew ?_) | (with_reducible refine bset (by first | exact Nat.le_refl _ | (dsimp only; omega)) ?_)))⟩
theorem encodeI_any (op d n m imm : Int) (w : World) (hS : Shapes w) (hW : Words w) (hi0 : -9223372036854775808 ≤ imm) (hi1 : imm ≤ 9223372036854775807) :
    Calls Tryd.prog 15 #[.agg #[.int .i8 op, .int .i8 d, .int .i8 n, .int .i8 m, .int .i64 imm]] w fun e w' => e = .returned (encV op d n m imm) ∧ Below w.heap.size w w' := by
  by_cases h : okB op d n m imm = true
  · by_cases h8 : op = 18
    · subst h8
      rw [encV_f (.inr rfl)]
      exact encodeI_18 d n m imm w hS h
    · rw [encV_t h h8]
      by_cases h7 : op = 7
      · subst h7
        exact encodeI_7 d n m imm w hS hW h hi0 hi1
      · have := (okB_cases h).1
        obtain ⟨k, rfl⟩ := Int.eq_ofNat_of_zero_le this.1
        exact encodeI_yes k d n m imm w hS hW h (by omega) (by omega) hi0 hi1
  · rw [encV_f (.inl (by simpa using h))]
    exact encodeI_no op d n m imm w hS (by simpa using h)
end Go.Proofs.YtailocbophkmmaaDoor
