/-
  Package isa: imm, Encode.
-/
import Derived.Test.YtailocbophkmmaaDoorAlu
import Derived.Test.YtailocbophkmmaaDoorField
namespace Go.Proofs.YtailocbophkmmaaDoor
open Go.RowKit FP

theorem regB_bd {k : Int} {b : Bool} (h : regB k b = true) : 0 ≤ k ∧ k < 8 := by grind [regB]
/-- Imm at its bits. -/
def immI (op imm : Int) : Int := if op = 1 then imm * 32 else if op = 7 then (if imm < 0 then -imm else imm) * 1024 else if op = 14 then imm % 67108864 else if op = 15 ∨ op = 16 then (imm % 524288) * 32 else 0
theorem get25 (x : Int) : getI x 25 0 = x % 67108864 := by
  have e1 : (0 : Int).toNat = 0 := rfl
  have e2 : ((25 : Int) - 0 + 1).toNat = 26 := rfl
  simp only [getI, e1, e2]; omega
theorem get18 (x : Int) : getI x 18 0 = x % 524288 := by
  have e1 : (0 : Int).toNat = 0 := rfl
  have e2 : ((18 : Int) - 0 + 1).toNat = 19 := rfl
  simp only [getI, e1, e2]; omega
theorem wrapU64 (n : Int) : IntKind.u64.wrap n = n % 18446744073709551616 := by simp [IntKind.wrap, IntKind.bits, IntKind.signed]
set_option maxHeartbeats 1000000 in
theorem imm_any (op d n m imm : Int) (w : World) (h1 : op = 1 → 0 ≤ imm ∧ imm ≤ 65535) (h7 : op = 7 → -2048 ≤ imm ∧ imm ≤ 2047) (hi0 : -9223372036854775808 ≤ imm) (hi1 : imm ≤ 9223372036854775807) :
    Calls Tryd.prog 33 #[.agg #[.int .i8 op, .int .i8 d, .int .i8 n, .int .i8 m, .int .i64 imm]] w fun e w' => e = .returned (.int .u64 (immI op imm)) ∧ Below w.heap.size w w' := by
  obtain ⟨u, hu⟩ : ∃ u, IntKind.u64.wrap imm = u := ⟨_, rfl⟩
  have hu1 : 0 ≤ u ∧ u < 18446744073709551616 ∧ u % 67108864 = imm % 67108864 ∧ u % 524288 = imm % 524288 := by rw [← hu, wrapU64]; omega
  have HU := Lib.hid hu
  obtain ⟨hu2, hu3, hu4, hu5⟩ := hu1
  have HU4 := Lib.hid hu4
  have HU5 := Lib.hid hu5
  clear hu4 hu5
  by_cases c1 : op = 1
  · subst c1
    obtain ⟨b0, b1⟩ := h1 rfl
    clear h1 h7 hu
    go_enter Tryd.func33, Tryd.ntmps33
    go_wp2
    go_ret
    exact ⟨ret_u64 (by simp [immI]), (by repeat (first | (with_reducible exact Below.refl _ _) | (with_reducible assumption) | (with_reducible refine bthen (by with_reducible assumption) ?_) | (with_reducible refine balloc _ ?_) | (with_reducible refine bdrewN _ ?_) | (with_reducible refine bdrew ?_) | (with_reducible refine bset (by first | exact Nat.le_refl _ | (dsimp only; omega)) ?_)))⟩
  by_cases c7 : op = 7
  · subst c7
    obtain ⟨b0, b1⟩ := h7 rfl
    clear h1 h7 hu
    by_cases hn : imm < 0
    all_goals
      go_enter Tryd.func33, Tryd.ntmps33
      go_wp2
      go_ret
      exact ⟨ret_u64 (by simp [immI]; omega), (by repeat (first | (with_reducible exact Below.refl _ _) | (with_reducible assumption) | (with_reducible refine bthen (by with_reducible assumption) ?_) | (with_reducible refine balloc _ ?_) | (with_reducible refine bdrewN _ ?_) | (with_reducible refine bdrew ?_) | (with_reducible refine bset (by first | exact Nat.le_refl _ | (dsimp only; omega)) ?_)))⟩
  by_cases c14 : op = 14
  · subst c14
    clear h1 h7
    go_enter Tryd.func33, Tryd.ntmps33
    go_wp2_with (go_at_call 22; (with_reducible refine (get_any u 25 0 _ hu2 hu3 (by omega) (by omega) (by omega)).mono ?_); rintro e w' ⟨rfl, hb⟩; obtain ⟨hz, hc, hf⟩ := bcell hb; (try simp only [World.size_alloc, World.size_drew, World.heap_drewN, World.size_setCell] at hz); (try have hs0 : w.heap.size < w'.heap.size := by omega); (try have hs1 : w.heap.size + 1 < w'.heap.size := by omega); (try have hs2 : w.heap.size + 2 < w'.heap.size := by omega))
    go_ret
    exact ⟨ret_u64 (by rw [get25, HU4.out]; simp [immI]), (by repeat (first | (with_reducible exact Below.refl _ _) | (with_reducible assumption) | (with_reducible refine bthen (by with_reducible assumption) ?_) | (with_reducible refine balloc _ ?_) | (with_reducible refine bdrewN _ ?_) | (with_reducible refine bdrew ?_) | (with_reducible refine bset (by first | exact Nat.le_refl _ | (dsimp only; omega)) ?_)))⟩
  by_cases c15 : op = 15 ∨ op = 16
  · have hb := get18 u
    have hb0 : 0 ≤ getI u 18 0 := by omega
    have hb1 : getI u 18 0 < 524288 := by omega
    have HB := Lib.hid hb
    clear h1 h7 hb
    rcases c15 with rfl | rfl
    all_goals
      go_enter Tryd.func33, Tryd.ntmps33
      go_wp2_with (go_at_call 22; (with_reducible refine (get_any u 18 0 _ hu2 hu3 (by omega) (by omega) (by omega)).mono ?_); rintro e w' ⟨rfl, hb⟩; obtain ⟨hz, hc, hf⟩ := bcell hb; (try simp only [World.size_alloc, World.size_drew, World.heap_drewN, World.size_setCell] at hz); (try have hs0 : w.heap.size < w'.heap.size := by omega); (try have hs1 : w.heap.size + 1 < w'.heap.size := by omega); (try have hs2 : w.heap.size + 2 < w'.heap.size := by omega))
      go_ret
      exact ⟨ret_u64 (by rw [HB.out, HU5.out]; simp [immI]), (by repeat (first | (with_reducible exact Below.refl _ _) | (with_reducible assumption) | (with_reducible refine bthen (by with_reducible assumption) ?_) | (with_reducible refine balloc _ ?_) | (with_reducible refine bdrewN _ ?_) | (with_reducible refine bdrew ?_) | (with_reducible refine bset (by first | exact Nat.le_refl _ | (dsimp only; omega)) ?_)))⟩
  · have d1 : (op == 1) = false := by simp [c1]
    have d7 : (op == 7) = false := by simp [c7]
    have d14 : (op == 14) = false := by simp [c14]
    have d15 : (op == 15) = false := by rw [beq_eq_false_iff_ne]; omega
    have d16 : (op == 16) = false := by rw [beq_eq_false_iff_ne]; omega
    have HI : Hid (immI op imm = 0) := Lib.hid (by simp [immI, c1, c7, c14, c15])
    clear h1 h7 hu c1 c7 c14 c15
    go_enter Tryd.func33, Tryd.ntmps33
    go_wp2
    go_ret
    exact ⟨ret_u64 HI.out.symm, (by repeat (first | (with_reducible exact Below.refl _ _) | (with_reducible assumption) | (with_reducible refine bthen (by with_reducible assumption) ?_) | (with_reducible refine balloc _ ?_) | (with_reducible refine bdrewN _ ?_) | (with_reducible refine bdrew ?_) | (with_reducible refine bset (by first | exact Nat.le_refl _ | (dsimp only; omega)) ?_)))⟩

/-- The words without their fields. -/
def wordI (n : Nat) : Int := if n = 0 then 3573751839 else if n = 1 then 3531603968 else if n = 2 then 2332033024 else if n = 3 then 3405774848 else if n = 4 then 2315255808 else if n = 5 then 2852126720 else if n = 6 then 3388997632 else if n = 7 then 2432696320 else if n = 8 then 4181721088 else if n = 9 then 4177526784 else if n = 10 then 3361700864 else if n = 11 then 3355474944 else if n = 12 then 3365927936 else if n = 13 then 3573759935 else if n = 14 then 335544320 else if n = 15 then 3019898880 else if n = 16 then 3036676096 else if n = 17 then 3556769793 else 0
def Words (w : World) : Prop := ∀ n, n < 19 → w.cell? ⟨1, n, none⟩ = some (.int .u32 (wordI n))
theorem Words.below {w w' : World} (h : Words w) (hb : Below w.heap.size w w') : Words w' := fun n hn => by
  have hlt : 1 < w.heap.size := World.block_lt_of_cell? w _ (h 0 (by omega))
  exact (hb.cell (p := ⟨_, _, none⟩) hlt).trans (h n hn)
/-- An instruction's word. -/
def encI (op d n m imm : Int) : Int := (if op = 7 ∧ imm < 0 then 3506438144 else wordI op.toNat) + m * 65536 + n * 32 + d + immI op imm
/-- One field more. -/
theorem orf {x v p q : Int} (l n : Nat) (hp : p = 2 ^ l) (hq : q = 2 ^ n) (hN : l + n ≤ 32) (hx0 : 0 ≤ x) (hx : x < 4294967296) (hv0 : 0 ≤ v) (hv : v < q) (hz : x / p % q = 0) : bits .or .u32 x (v * p) = x + v * p := by
  subst hp hq
  obtain ⟨x, rfl⟩ := Int.eq_ofNat_of_zero_le hx0
  obtain ⟨v, rfl⟩ := Int.eq_ofNat_of_zero_le hv0
  have hz' : x / 2 ^ l % 2 ^ n = 0 := by exact_mod_cast hz
  have hv' : v < 2 ^ n := by exact_mod_cast hv
  have e : (v : Int) * 2 ^ l = ((v * 2 ^ l : Nat) : Int) := by simp
  have hvm : v * 2 ^ l < 2 ^ 32 := by
    have a1 : v * 2 ^ l ≤ (2 ^ n - 1) * 2 ^ l := Nat.mul_le_mul_right _ (by omega)
    have := mask_lt n l 32 hN
    omega
  have := or_field x v n l hv'
  rw [hz', Nat.zero_mul, Nat.sub_zero] at this
  rw [e, u32_or_nat x _ (by omega) (by omega), this]
  simp
theorem or0 {x : Int} (hx0 : 0 ≤ x) (hx : x < 4294967296) : bits .or .u32 x 0 = x := by
  obtain ⟨x, rfl⟩ := Int.eq_ofNat_of_zero_le hx0
  have := u32_or_nat x 0 (by omega) (by omega)
  simpa using this
theorem orf' {x v p q : Int} (l n : Nat) (hp : p = 2 ^ l) (hq : q = 2 ^ n) (hN : l + n ≤ 32) (hx0 : 0 ≤ x) (hx : x < 4294967296) (hv0 : 0 ≤ v) (hv : v < q) (hz : x / p % q = 0 ∨ v = 0) : bits .or .u32 x (v * p) = x + v * p := by
  rcases hz with hz | rfl
  · exact orf l n hp hq hN hx0 hx hv0 hv hz
  · rw [Int.zero_mul, or0 hx0 hx, Int.add_zero]
theorem chain {B m n d : Int} (hB0 : 0 ≤ B) (hB : B < 4290000000) (hm : 0 ≤ m ∧ m < 8) (hn : 0 ≤ n ∧ n < 8) (hd : 0 ≤ d ∧ d < 8) (z1 : B / 65536 % 32 = 0 ∨ m = 0) (z2 : B / 32 % 32 = 0 ∨ n = 0) (z3 : B % 32 = 0 ∨ d = 0) :
    bits .or .u32 (bits .or .u32 (bits .or .u32 B (m * 65536)) (n * 32)) d = B + m * 65536 + n * 32 + d := by
  have e3 : d = d * 1 := by omega
  rw [orf' (q := 32) 16 5 (by decide) (by decide) (by decide) hB0 (by omega) hm.1 (by omega) z1]
  rw [orf' (q := 32) 5 5 (by decide) (by decide) (by decide) (by omega) (by omega) hn.1 (by omega) (by omega)]
  have h3 := orf' (x := B + m * 65536 + n * 32) (v := d) (p := 1) (q := 32) 0 5 (by decide) (by decide) (by decide) (by omega) (by omega) hd.1 (by omega) (by omega)
  rw [Int.mul_one] at h3
  exact h3
theorem okB_cases {op d n m imm : Int} (h : okB op d n m imm = true) : (0 ≤ op ∧ op ≤ 18) ∧ (0 ≤ d ∧ d < 8) ∧ (0 ≤ n ∧ n < 8) ∧ (0 ≤ m ∧ m < 8) ∧ (hasD op.toNat = false → d = 0) ∧ (hasN op.toNat = false → n = 0) ∧ (hasM op.toNat = false → m = 0) ∧ leastI op.toNat ≤ imm ∧ imm ≤ mostI op.toNat := by
  simp only [okB, Bool.and_eq_true, decide_eq_true_eq] at h
  obtain ⟨h0, h1, h2, h3, h4⟩ := h
  refine ⟨h0, regB_bd h1, regB_bd h2, regB_bd h3, ?_, ?_, ?_, h4⟩
  · intro e; rw [e] at h1; simpa [regB] using h1
  · intro e; rw [e] at h2; simpa [regB] using h2
  · intro e; rw [e] at h3; simpa [regB] using h3
theorem op_cases {op : Int} (h : 0 ≤ op ∧ op ≤ 18) (h18 : op ≠ 18) : op = 0 ∨ op = 1 ∨ op = 2 ∨ op = 3 ∨ op = 4 ∨ op = 5 ∨ op = 6 ∨ op = 7 ∨ op = 8 ∨ op = 9 ∨ op = 10 ∨ op = 11 ∨ op = 12 ∨ op = 13 ∨ op = 14 ∨ op = 15 ∨ op = 16 ∨ op = 17 := by omega
theorem enc_or {op d n m imm : Int} (h : okB op d n m imm = true) (h18 : op ≠ 18) :
    bits .or .u32 (bits .or .u32 (bits .or .u32 (bits .or .u32 (if op = 7 ∧ imm < 0 then 3506438144 else wordI op.toNat) (m * 65536)) (n * 32)) d) (immI op imm) = encI op d n m imm := by
  obtain ⟨h0, hd, hn, hm, zd, zn, zm, il, im⟩ := okB_cases h
  rcases op_cases h0 h18 with rfl | rfl | rfl | rfl | rfl | rfl | rfl | rfl | rfl | rfl | rfl | rfl | rfl | rfl | rfl | rfl | rfl | rfl
  · have hd0 := zd rfl
    have hn0 := zn rfl
    have hm0 := zm rfl
    simp [leastI, mostI] at il im
    have c := chain (B := 3573751839) (by decide) (by decide) hm hn hd (by omega) (by omega) (by omega)
    have e := or0 (x := 3573751839 + m * 65536 + n * 32 + d) (by omega) (by omega)
    have e1 : immI 0 imm = 0 := by simp [immI]
    have e2 : (if (0 : Int) = 7 ∧ imm < 0 then (3506438144 : Int) else wordI (0 : Int).toNat) = 3573751839 := by simp [wordI]
    rw [encI, e2, e1, c, e]
    omega
  · have hn0 := zn rfl
    have hm0 := zm rfl
    simp [leastI, mostI] at il im
    have c := chain (B := 3531603968) (by decide) (by decide) hm hn hd (by omega) (by omega) (by omega)
    have e := orf' (x := 3531603968 + m * 65536 + n * 32 + d) (v := imm) (p := 32) (q := 65536) 5 16 (by decide) (by decide) (by decide) (by omega) (by omega) (by omega) (by omega) (by omega)
    have e1 : immI 1 imm = imm * 32 := by simp [immI]
    have e2 : (if (1 : Int) = 7 ∧ imm < 0 then (3506438144 : Int) else wordI (1 : Int).toNat) = 3531603968 := by simp [wordI]
    rw [encI, e2, e1, c, e]
  · simp [leastI, mostI] at il im
    have c := chain (B := 2332033024) (by decide) (by decide) hm hn hd (by omega) (by omega) (by omega)
    have e := or0 (x := 2332033024 + m * 65536 + n * 32 + d) (by omega) (by omega)
    have e1 : immI 2 imm = 0 := by simp [immI]
    have e2 : (if (2 : Int) = 7 ∧ imm < 0 then (3506438144 : Int) else wordI (2 : Int).toNat) = 2332033024 := by simp [wordI]
    rw [encI, e2, e1, c, e]
    omega
  · simp [leastI, mostI] at il im
    have c := chain (B := 3405774848) (by decide) (by decide) hm hn hd (by omega) (by omega) (by omega)
    have e := or0 (x := 3405774848 + m * 65536 + n * 32 + d) (by omega) (by omega)
    have e1 : immI 3 imm = 0 := by simp [immI]
    have e2 : (if (3 : Int) = 7 ∧ imm < 0 then (3506438144 : Int) else wordI (3 : Int).toNat) = 3405774848 := by simp [wordI]
    rw [encI, e2, e1, c, e]
    omega
  · simp [leastI, mostI] at il im
    have c := chain (B := 2315255808) (by decide) (by decide) hm hn hd (by omega) (by omega) (by omega)
    have e := or0 (x := 2315255808 + m * 65536 + n * 32 + d) (by omega) (by omega)
    have e1 : immI 4 imm = 0 := by simp [immI]
    have e2 : (if (4 : Int) = 7 ∧ imm < 0 then (3506438144 : Int) else wordI (4 : Int).toNat) = 2315255808 := by simp [wordI]
    rw [encI, e2, e1, c, e]
    omega
  · simp [leastI, mostI] at il im
    have c := chain (B := 2852126720) (by decide) (by decide) hm hn hd (by omega) (by omega) (by omega)
    have e := or0 (x := 2852126720 + m * 65536 + n * 32 + d) (by omega) (by omega)
    have e1 : immI 5 imm = 0 := by simp [immI]
    have e2 : (if (5 : Int) = 7 ∧ imm < 0 then (3506438144 : Int) else wordI (5 : Int).toNat) = 2852126720 := by simp [wordI]
    rw [encI, e2, e1, c, e]
    omega
  · simp [leastI, mostI] at il im
    have c := chain (B := 3388997632) (by decide) (by decide) hm hn hd (by omega) (by omega) (by omega)
    have e := or0 (x := 3388997632 + m * 65536 + n * 32 + d) (by omega) (by omega)
    have e1 : immI 6 imm = 0 := by simp [immI]
    have e2 : (if (6 : Int) = 7 ∧ imm < 0 then (3506438144 : Int) else wordI (6 : Int).toNat) = 3388997632 := by simp [wordI]
    rw [encI, e2, e1, c, e]
    omega
  · by_cases hneg : imm < 0
    · have hm0 := zm rfl
      simp [leastI, mostI] at il im
      have c := chain (B := 3506438144) (by decide) (by decide) hm hn hd (by omega) (by omega) (by omega)
      have e := orf' (x := 3506438144 + m * 65536 + n * 32 + d) (v := -imm) (p := 1024) (q := 4096) 10 12 (by decide) (by decide) (by decide) (by omega) (by omega) (by omega) (by omega) (by omega)
      have e1 : immI 7 imm = -imm * 1024 := by simp [immI, hneg]
      have e2 : (if (7 : Int) = 7 ∧ imm < 0 then (3506438144 : Int) else wordI (7 : Int).toNat) = 3506438144 := by simp [hneg]
      rw [encI, e2, e1, c, e]
    · have hm0 := zm rfl
      simp [leastI, mostI] at il im
      have c := chain (B := 2432696320) (by decide) (by decide) hm hn hd (by omega) (by omega) (by omega)
      have e := orf' (x := 2432696320 + m * 65536 + n * 32 + d) (v := imm) (p := 1024) (q := 4096) 10 12 (by decide) (by decide) (by decide) (by omega) (by omega) (by omega) (by omega) (by omega)
      have e1 : immI 7 imm = imm * 1024 := by simp [immI, hneg]
      have e2 : (if (7 : Int) = 7 ∧ imm < 0 then (3506438144 : Int) else wordI (7 : Int).toNat) = 2432696320 := by simp [hneg, wordI]
      rw [encI, e2, e1, c, e]
  · have hm0 := zm rfl
    simp [leastI, mostI] at il im
    have c := chain (B := 4181721088) (by decide) (by decide) hm hn hd (by omega) (by omega) (by omega)
    have e := or0 (x := 4181721088 + m * 65536 + n * 32 + d) (by omega) (by omega)
    have e1 : immI 8 imm = 0 := by simp [immI]
    have e2 : (if (8 : Int) = 7 ∧ imm < 0 then (3506438144 : Int) else wordI (8 : Int).toNat) = 4181721088 := by simp [wordI]
    rw [encI, e2, e1, c, e]
    omega
  · have hm0 := zm rfl
    simp [leastI, mostI] at il im
    have c := chain (B := 4177526784) (by decide) (by decide) hm hn hd (by omega) (by omega) (by omega)
    have e := or0 (x := 4177526784 + m * 65536 + n * 32 + d) (by omega) (by omega)
    have e1 : immI 9 imm = 0 := by simp [immI]
    have e2 : (if (9 : Int) = 7 ∧ imm < 0 then (3506438144 : Int) else wordI (9 : Int).toNat) = 4177526784 := by simp [wordI]
    rw [encI, e2, e1, c, e]
    omega
  · have hm0 := zm rfl
    simp [leastI, mostI] at il im
    have c := chain (B := 3361700864) (by decide) (by decide) hm hn hd (by omega) (by omega) (by omega)
    have e := or0 (x := 3361700864 + m * 65536 + n * 32 + d) (by omega) (by omega)
    have e1 : immI 10 imm = 0 := by simp [immI]
    have e2 : (if (10 : Int) = 7 ∧ imm < 0 then (3506438144 : Int) else wordI (10 : Int).toNat) = 3361700864 := by simp [wordI]
    rw [encI, e2, e1, c, e]
    omega
  · simp [leastI, mostI] at il im
    have c := chain (B := 3355474944) (by decide) (by decide) hm hn hd (by omega) (by omega) (by omega)
    have e := or0 (x := 3355474944 + m * 65536 + n * 32 + d) (by omega) (by omega)
    have e1 : immI 11 imm = 0 := by simp [immI]
    have e2 : (if (11 : Int) = 7 ∧ imm < 0 then (3506438144 : Int) else wordI (11 : Int).toNat) = 3355474944 := by simp [wordI]
    rw [encI, e2, e1, c, e]
    omega
  · have hm0 := zm rfl
    simp [leastI, mostI] at il im
    have c := chain (B := 3365927936) (by decide) (by decide) hm hn hd (by omega) (by omega) (by omega)
    have e := or0 (x := 3365927936 + m * 65536 + n * 32 + d) (by omega) (by omega)
    have e1 : immI 12 imm = 0 := by simp [immI]
    have e2 : (if (12 : Int) = 7 ∧ imm < 0 then (3506438144 : Int) else wordI (12 : Int).toNat) = 3365927936 := by simp [wordI]
    rw [encI, e2, e1, c, e]
    omega
  · have hd0 := zd rfl
    have hn0 := zn rfl
    have hm0 := zm rfl
    simp [leastI, mostI] at il im
    have c := chain (B := 3573759935) (by decide) (by decide) hm hn hd (by omega) (by omega) (by omega)
    have e := or0 (x := 3573759935 + m * 65536 + n * 32 + d) (by omega) (by omega)
    have e1 : immI 13 imm = 0 := by simp [immI]
    have e2 : (if (13 : Int) = 7 ∧ imm < 0 then (3506438144 : Int) else wordI (13 : Int).toNat) = 3573759935 := by simp [wordI]
    rw [encI, e2, e1, c, e]
    omega
  · have hd0 := zd rfl
    have hn0 := zn rfl
    have hm0 := zm rfl
    simp [leastI, mostI] at il im
    have c := chain (B := 335544320) (by decide) (by decide) hm hn hd (by omega) (by omega) (by omega)
    have e := orf' (x := 335544320 + m * 65536 + n * 32 + d) (v := imm % 67108864) (p := 1) (q := 67108864) 0 26 (by decide) (by decide) (by decide) (by omega) (by omega) (by omega) (by omega) (by omega)
    rw [Int.mul_one] at e
    have e1 : immI 14 imm = imm % 67108864 := by simp [immI]
    have e2 : (if (14 : Int) = 7 ∧ imm < 0 then (3506438144 : Int) else wordI (14 : Int).toNat) = 335544320 := by simp [wordI]
    rw [encI, e2, e1, c, e]
  · have hn0 := zn rfl
    have hm0 := zm rfl
    simp [leastI, mostI] at il im
    have c := chain (B := 3019898880) (by decide) (by decide) hm hn hd (by omega) (by omega) (by omega)
    have e := orf' (x := 3019898880 + m * 65536 + n * 32 + d) (v := imm % 524288) (p := 32) (q := 524288) 5 19 (by decide) (by decide) (by decide) (by omega) (by omega) (by omega) (by omega) (by omega)
    have e1 : immI 15 imm = imm % 524288 * 32 := by simp [immI]
    have e2 : (if (15 : Int) = 7 ∧ imm < 0 then (3506438144 : Int) else wordI (15 : Int).toNat) = 3019898880 := by simp [wordI]
    rw [encI, e2, e1, c, e]
  · have hn0 := zn rfl
    have hm0 := zm rfl
    simp [leastI, mostI] at il im
    have c := chain (B := 3036676096) (by decide) (by decide) hm hn hd (by omega) (by omega) (by omega)
    have e := orf' (x := 3036676096 + m * 65536 + n * 32 + d) (v := imm % 524288) (p := 32) (q := 524288) 5 19 (by decide) (by decide) (by decide) (by omega) (by omega) (by omega) (by omega) (by omega)
    have e1 : immI 16 imm = imm % 524288 * 32 := by simp [immI]
    have e2 : (if (16 : Int) = 7 ∧ imm < 0 then (3506438144 : Int) else wordI (16 : Int).toNat) = 3036676096 := by simp [wordI]
    rw [encI, e2, e1, c, e]
  · have hd0 := zd rfl
    have hn0 := zn rfl
    have hm0 := zm rfl
    simp [leastI, mostI] at il im
    have c := chain (B := 3556769793) (by decide) (by decide) hm hn hd (by omega) (by omega) (by omega)
    have e := or0 (x := 3556769793 + m * 65536 + n * 32 + d) (by omega) (by omega)
    have e1 : immI 17 imm = 0 := by simp [immI]
    have e2 : (if (17 : Int) = 7 ∧ imm < 0 then (3506438144 : Int) else wordI (17 : Int).toNat) = 3556769793 := by simp [wordI]
    rw [encI, e2, e1, c, e]
    omega
end Go.Proofs.YtailocbophkmmaaDoor
