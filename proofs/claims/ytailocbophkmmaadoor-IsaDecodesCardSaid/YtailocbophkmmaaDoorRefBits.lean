/-
  Package tenementref01: bit, Get, Sign, by their loops.
-/
import Derived.Test.YtailocbophkmmaaDoorIsaRead
namespace Go.Proofs.YtailocbophkmmaaDoor
open Go.RowKit FP

theorem and_one (y : Int) (h0 : 0 ≤ y) (h1 : y < 18446744073709551616) : bits .and .u64 y 1 = y % 2 := by
  have := get_eq y 0 0 h0 h1 (by omega) (by omega) (by omega)
  have e : onesI 0 0 = 1 := by decide
  rw [e] at this
  simpa [getI] using this
theorem or_bit (a b : Int) (a0 : 0 ≤ a) (a1 : a < 9223372036854775808) (b0 : 0 ≤ b) (b1 : b < 2) : bits .or .u64 (a * 2) b = a * 2 + b := by
  obtain ⟨a, rfl⟩ := Int.eq_ofNat_of_zero_le a0
  obtain ⟨b, rfl⟩ := Int.eq_ofNat_of_zero_le b0
  have : ((a : Int) * 2) = ((a * 2 : Nat) : Int) := by simp
  rw [this, u64_or_nat _ _ (by omega) (by omega), disj_add (a * 2) (a * 2) b (Nat.le_refl _)]
  · simp
  · have hb : b = 0 ∨ b = 1 := by omega
    rcases hb with rfl | rfl
    · simp
    · rw [Nat.and_one_is_mod]; omega
/-- One bit. -/
def bitI (x k : Int) : Int := x / 2 ^ k.toNat % 2
theorem bitI_bd (x k : Int) : 0 ≤ bitI x k ∧ bitI x k < 2 := by unfold bitI; omega
theorem shr_bd (x : Int) (n : Nat) (h0 : 0 ≤ x) (h1 : x < 18446744073709551616) : 0 ≤ x / 2 ^ n ∧ x / 2 ^ n < 18446744073709551616 := by
  obtain ⟨x, rfl⟩ := Int.eq_ofNat_of_zero_le h0
  have e : ((x : Int) / 2 ^ n) = ((x / 2 ^ n : Nat) : Int) := by simp
  rw [e]
  have := Nat.div_le_self x (2 ^ n)
  obtain ⟨q, hq⟩ : ∃ q, x / 2 ^ n = q := ⟨_, rfl⟩
  rw [hq] at this ⊢
  omega
theorem refbit_any (x k : Int) (w : World) (h0 : 0 ≤ x) (h1 : x < 18446744073709551616) (k0 : 0 ≤ k) (k1 : k ≤ 63) :
    Calls Tryd.prog 54 #[.int .u64 x, .int .i64 k] w fun e w' => e = .returned (.int .u64 (bitI x k)) ∧ Below w.heap.size w w' := by
  have hb := shr_bd x k.toNat h0 h1
  go_enter Tryd.func54, Tryd.ntmps54
  go_wp2
  go_ret
  exact ⟨ret_u64 (and_one _ hb.1 hb.2), (by repeat (first | (with_reducible exact Below.refl _ _) | (with_reducible assumption) | (with_reducible refine bthen (by with_reducible assumption) ?_) | (with_reducible refine balloc _ ?_) | (with_reducible refine bdrewN _ ?_) | (with_reducible refine bdrew ?_) | (with_reducible refine bset (by first | exact Nat.le_refl _ | (dsimp only; omega)) ?_)))⟩
theorem refis_any (h l : Int) (w : World) (h0 : 0 ≤ l) (h1 : l ≤ h) (h2 : h ≤ 63) :
    Calls Tryd.prog 53 #[.int .i64 h, .int .i64 l] w fun e w' => e = .returned (.bool true) ∧ Below w.heap.size w w' := by
  go_enter Tryd.func53, Tryd.ntmps53
  go_wp2
  all_goals
    go_ret
    exact ⟨rfl, (by repeat (first | (with_reducible exact Below.refl _ _) | (with_reducible assumption) | (with_reducible refine bthen (by with_reducible assumption) ?_) | (with_reducible refine balloc _ ?_) | (with_reducible refine bdrewN _ ?_) | (with_reducible refine bdrew ?_) | (with_reducible refine bset (by first | exact Nat.le_refl _ | (dsimp only; omega)) ?_)))⟩
/-- What Get holds ahead of bit s. -/
def GetAt (x h l s a : Int) : Prop := l - 1 ≤ s ∧ s ≤ h ∧ a = x / 2 ^ (s + 1).toNat % 2 ^ (h - s).toNat
theorem getAt_start (x h l : Int) (h1 : l ≤ h) : GetAt x h l h 0 := ⟨by omega, by omega, by simp⟩
theorem getAt_bd {x h l s a : Int} (hA : GetAt x h l s a) (h0 : 0 ≤ l) (h2 : h ≤ 63) (hs : l ≤ s) : 0 ≤ a ∧ a < 9223372036854775808 := by
  obtain ⟨_, _, rfl⟩ := hA
  have hp : (0 : Int) < 2 ^ (h - s).toNat := by exact_mod_cast Nat.two_pow_pos _
  have hle : (2 : Int) ^ (h - s).toNat ≤ 2 ^ 63 := by exact_mod_cast Nat.pow_le_pow_right (by omega : 0 < 2) (by omega : (h - s).toNat ≤ 63)
  have h1 := Int.emod_nonneg (x / 2 ^ (s + 1).toNat) (by omega : (2 : Int) ^ (h - s).toNat ≠ 0)
  have h2 := Int.emod_lt_of_pos (x / 2 ^ (s + 1).toNat) hp
  have : (2 : Int) ^ 63 = 9223372036854775808 := by decide
  omega
theorem getAt_step {x h l s a : Int} (hA : GetAt x h l s a) (hx : 0 ≤ x) (h0 : 0 ≤ l) (hs : l ≤ s) : GetAt x h l (s - 1) (a * 2 + bitI x s) := by
  obtain ⟨_, hh, rfl⟩ := hA
  refine ⟨by omega, by omega, ?_⟩
  obtain ⟨x, rfl⟩ := Int.eq_ofNat_of_zero_le hx
  obtain ⟨s, rfl⟩ := Int.eq_ofNat_of_zero_le (a := s) (by omega)
  obtain ⟨m, hm⟩ : ∃ m : Nat, h - s = m := ⟨(h - s).toNat, by omega⟩
  have e1 : ((s : Int) + 1).toNat = s + 1 := by omega
  have e2 : ((s : Int) - 1 + 1).toNat = s := by omega
  have e3 : (h - s).toNat = m := by omega
  have e4 : (h - ((s : Int) - 1)).toNat = m + 1 := by omega
  rw [bitI, e1, e2, e3, e4, Int.toNat_natCast]
  have key : x / 2 ^ (s + 1) % 2 ^ m * 2 + x / 2 ^ s % 2 = x / 2 ^ s % 2 ^ (m + 1) := by
    rw [Nat.pow_succ 2 m, Nat.mul_comm (2 ^ m) 2, Nat.mod_mul, Nat.pow_succ, ← Nat.div_div_eq_div_mul]
    omega
  have := congrArg (fun n : Nat => (n : Int)) key
  simpa using this
theorem getAt_end {x h l s a : Int} (hA : GetAt x h l s a) (hs : ¬ l ≤ s) : a = getI x h l := by
  obtain ⟨_, hh, rfl⟩ := hA
  obtain rfl : s = l - 1 := by omega
  rw [getI]
  have e1 : l - 1 + 1 = l := by omega
  have e2 : h - (l - 1) = h - l + 1 := by omega
  rw [e1, e2]
set_option maxHeartbeats 1000000 in
theorem refget_any (x h l : Int) (w : World) (hx0 : 0 ≤ x) (hx : x < 18446744073709551616) (h0 : 0 ≤ l) (h1 : l ≤ h) (h2 : h ≤ 63) :
    Calls Tryd.prog 31 #[.int .u64 x, .int .i64 h, .int .i64 l] w fun e w' => e = .returned (.int .u64 (getI x h l)) ∧ Below w.heap.size w w' := by
  go_enter Tryd.func31, Tryd.ntmps31
  go_wp2_with (go_at_call 53; (with_reducible refine (refis_any h l _ h0 h1 h2).mono ?_); rintro e w' ⟨rfl, hb⟩; obtain ⟨hz, hc, hf⟩ := bcell hb; (try simp only [World.size_alloc, World.size_drew, World.heap_drewN, World.size_setCell] at hz); (try have hs0 : w.heap.size < w'.heap.size := by omega); (try have hs1 : w.heap.size + 1 < w'.heap.size := by omega); (try have hs2 : w.heap.size + 2 < w'.heap.size := by omega))
  go_loopw [7, 8] (fun v k wr => ∃ a s : Int, v = .int .u64 a ∧ k = .int .i64 s ∧ Hid (GetAt x h l s a) ∧ Below w.heap.size w wr) (fun _ k _ => (intOf k - l + 1).toNat)
  case atStart => exact ⟨0, h, rfl, rfl, Lib.hid (getAt_start x h l h1), (by repeat (first | (with_reducible exact Below.refl _ _) | (with_reducible assumption) | (with_reducible refine bthen (by with_reducible assumption) ?_) | (with_reducible refine balloc _ ?_) | (with_reducible refine bdrewN _ ?_) | (with_reducible refine bdrew ?_) | (with_reducible refine bset (by first | exact Nat.le_refl _ | (dsimp only; omega)) ?_)))⟩
  case round =>
    obtain ⟨a, s, rfl, rfl, HA, hB⟩ := hrel
    have hsr := hB.size
    have HB := Lib.hid hB
    clear hB
    have hs1 := HA.out.1
    have hs2 := HA.out.2.1
    by_cases hs : l ≤ s
    · obtain ⟨a0, a1⟩ := getAt_bd HA.out h0 h2 hs
      have hst := Lib.hid (getAt_step HA.out hx0 h0 hs)
      obtain ⟨b, hb⟩ : ∃ b, bitI x s = b := ⟨_, rfl⟩
      rw [hb] at hst
      have hbb := bitI_bd x s
      rw [hb] at hbb
      obtain ⟨b0, b1⟩ := hbb
      have HBI := Lib.hid hb
      have hor := Lib.hid (or_bit a b a0 a1 b0 b1)
      clear hb
      go_wp2_with (go_at_call 54; (with_reducible refine (refbit_any x s _ hx0 hx (by omega) (by omega)).mono ?_); rintro e w' ⟨rfl, hb⟩; rw [HBI.out]; obtain ⟨hz, hc, hf⟩ := bcell hb; (try simp only [World.size_alloc, World.size_drew, World.heap_drewN, World.size_setCell] at hz); (try have hs0 : w.heap.size < w'.heap.size := by omega); (try have hs1 : w.heap.size + 1 < w'.heap.size := by omega); (try have hs2 : w.heap.size + 2 < w'.heap.size := by omega))
      have hB := HB.out
      exact ⟨⟨_, _, rfl, rfl, Lib.hid (by rw [hor.out]; exact hst.out), (by repeat (first | (with_reducible exact Below.refl _ _) | (with_reducible assumption) | (with_reducible refine bthen (by with_reducible assumption) ?_) | (with_reducible refine balloc _ ?_) | (with_reducible refine bdrewN _ ?_) | (with_reducible refine bdrew ?_) | (with_reducible refine bset (by first | exact Nat.le_refl _ | (dsimp only; omega)) ?_)))⟩, by simp [intOf]; omega⟩
    · have hE := Lib.hid (getAt_end HA.out hs)
      go_wp2
      go_ret
      have hB := HB.out
      exact ⟨ret_u64 hE.out, (by repeat (first | (with_reducible exact Below.refl _ _) | (with_reducible assumption) | (with_reducible refine bthen (by with_reducible assumption) ?_) | (with_reducible refine balloc _ ?_) | (with_reducible refine bdrewN _ ?_) | (with_reducible refine bdrew ?_) | (with_reducible refine bset (by first | exact Nat.le_refl _ | (dsimp only; omega)) ?_)))⟩
/-- What Sign holds ahead of bit k. -/
def SignAt (x h k v : Int) : Prop := 0 ≤ k ∧ k ≤ h ∧ v = x % 2 ^ k.toNat
theorem signAt_start (x h : Int) (h0 : 0 ≤ h) : SignAt x h 0 0 := ⟨by omega, h0, by simp⟩
theorem pow_bd (k : Int) (k1 : k ≤ 25) : (0 : Int) < 2 ^ k.toNat ∧ (2 : Int) ^ k.toNat ≤ 33554432 := by
  have hp : (0 : Int) < 2 ^ k.toNat := by exact_mod_cast Nat.two_pow_pos _
  have hle : (2 : Int) ^ k.toNat ≤ 2 ^ 25 := by exact_mod_cast Nat.pow_le_pow_right (by omega : 0 < 2) (by omega : k.toNat ≤ 25)
  have : (2 : Int) ^ 25 = 33554432 := by decide
  omega
theorem signAt_bd {x h k v : Int} (hA : SignAt x h k v) (h2 : h ≤ 25) : 0 ≤ v ∧ v < 33554432 := by
  obtain ⟨_, _, rfl⟩ := hA
  have hp := pow_bd k (by omega)
  have h1 := Int.emod_nonneg x (by omega : (2 : Int) ^ k.toNat ≠ 0)
  have h2 := Int.emod_lt_of_pos x hp.1
  omega
theorem signAt_step {x h k v : Int} (hA : SignAt x h k v) (hx : 0 ≤ x) (hs : k < h) : SignAt x h (k + 1) (v + bitI x k * 2 ^ k.toNat) := by
  obtain ⟨h0, hh, rfl⟩ := hA
  refine ⟨by omega, by omega, ?_⟩
  obtain ⟨x, rfl⟩ := Int.eq_ofNat_of_zero_le hx
  obtain ⟨k, rfl⟩ := Int.eq_ofNat_of_zero_le h0
  have e1 : ((k : Int) + 1).toNat = k + 1 := by omega
  rw [bitI, e1, Int.toNat_natCast]
  have key : x % 2 ^ k + x / 2 ^ k % 2 * 2 ^ k = x % 2 ^ (k + 1) := by
    rw [Nat.pow_succ, Nat.mod_mul, Nat.mul_comm (2 ^ k)]
  have := congrArg (fun n : Nat => (n : Int)) key
  simpa using this
theorem signAt_end {x h k v : Int} (hA : SignAt x h k v) (hx : 0 ≤ x) (hs : ¬ k < h) : (if bitI x h = 1 then v - 2 ^ h.toNat else v) = sgnI x (2 ^ h.toNat) := by
  obtain ⟨h0, hh, rfl⟩ := hA
  obtain rfl : k = h := by omega
  have hp : (0 : Int) < 2 ^ k.toNat := by exact_mod_cast Nat.two_pow_pos _
  unfold bitI sgnI
  generalize hq : (2 : Int) ^ k.toNat = q at *
  have hm : x % (2 * q) = x % q + q * (x / q % 2) := by
    obtain ⟨x, rfl⟩ := Int.eq_ofNat_of_zero_le hx
    obtain ⟨q, rfl⟩ := Int.eq_ofNat_of_zero_le (a := q) (by omega)
    have := congrArg (fun n : Nat => (n : Int)) (Nat.mod_mul (x := x) (a := q) (b := 2))
    rw [Int.mul_comm 2]
    simpa using this
  have h1 := Int.emod_nonneg x (by omega : q ≠ 0)
  have h2 := Int.emod_lt_of_pos x hp
  have hb : x / q % 2 = 0 ∨ x / q % 2 = 1 := by omega
  rcases hb with hb | hb <;> rw [hm, hb]
  · rw [if_neg (by omega), if_pos (by omega)]; omega
  · rw [if_pos rfl, if_neg (by omega)]; omega
set_option maxHeartbeats 1000000 in
theorem refsign_any (x h : Int) (w : World) (hx0 : 0 ≤ x) (hx : x < 18446744073709551616) (h0 : 0 ≤ h) (h2 : h ≤ 25) :
    Calls Tryd.prog 32 #[.int .u64 x, .int .i64 h] w fun e w' => e = .returned (.int .i64 (sgnI x (2 ^ h.toNat))) ∧ Below w.heap.size w w' := by
  have hph := pow_bd h h2
  go_enter Tryd.func32, Tryd.ntmps32
  go_wp2
  go_loopw [5, 6] (fun v k wr => ∃ a s : Int, v = .int .i64 a ∧ k = .int .i64 s ∧ Hid (SignAt x h s a) ∧ Below w.heap.size w wr) (fun _ k _ => (h - intOf k).toNat)
  case atStart => exact ⟨0, 0, rfl, rfl, Lib.hid (signAt_start x h h0), (by repeat (first | (with_reducible exact Below.refl _ _) | (with_reducible assumption) | (with_reducible refine bthen (by with_reducible assumption) ?_) | (with_reducible refine balloc _ ?_) | (with_reducible refine bdrewN _ ?_) | (with_reducible refine bdrew ?_) | (with_reducible refine bset (by first | exact Nat.le_refl _ | (dsimp only; omega)) ?_)))⟩
  case round =>
    obtain ⟨a, s, rfl, rfl, HA, hB⟩ := hrel
    have hsr := hB.size
    have HB := Lib.hid hB
    clear hB
    have hs1 := HA.out.1
    have hs2 := HA.out.2.1
    obtain ⟨a0, a1⟩ := signAt_bd HA.out h2
    by_cases hs : s < h
    · have hst := Lib.hid (signAt_step HA.out hx0 hs)
      obtain ⟨b, hb⟩ : ∃ b, bitI x s = b := ⟨_, rfl⟩
      rw [hb] at hst
      have hbb := bitI_bd x s
      rw [hb] at hbb
      obtain ⟨b0, b1⟩ := hbb
      have HBI := Lib.hid hb
      have hps := pow_bd s (by omega)
      clear hb
      go_wp2_with (go_at_call 54; (with_reducible refine (refbit_any x s _ hx0 hx (by omega) (by omega)).mono ?_); rintro e w' ⟨rfl, hb⟩; rw [HBI.out]; obtain ⟨hz, hc, hf⟩ := bcell hb; (try simp only [World.size_alloc, World.size_drew, World.heap_drewN, World.size_setCell] at hz); (try have hs0 : w.heap.size < w'.heap.size := by omega); (try have hs1 : w.heap.size + 1 < w'.heap.size := by omega); (try have hs2 : w.heap.size + 2 < w'.heap.size := by omega))
      have hB := HB.out
      refine ⟨⟨_, _, rfl, rfl, Lib.hid ?_, (by repeat (first | (with_reducible exact Below.refl _ _) | (with_reducible assumption) | (with_reducible refine bthen (by with_reducible assumption) ?_) | (with_reducible refine balloc _ ?_) | (with_reducible refine bdrewN _ ?_) | (with_reducible refine bdrew ?_) | (with_reducible refine bset (by first | exact Nat.le_refl _ | (dsimp only; omega)) ?_)))⟩, by simp [intOf]; omega⟩
      have e : wrap64 (a + wrap64 (b * 2 ^ s.toNat)) = a + b * 2 ^ s.toNat := by
        generalize (2 : Int) ^ s.toNat = q at *
        rcases (by omega : b = 0 ∨ b = 1) with rfl | rfl
        all_goals (unfold wrap64; omega)
      rw [e]
      exact hst.out
    · have HE := Lib.hid (signAt_end HA.out hx0 hs)
      obtain ⟨b, hb⟩ : ∃ b, bitI x h = b := ⟨_, rfl⟩
      rw [hb] at HE
      have hbb := bitI_bd x h
      rw [hb] at hbb
      obtain ⟨b0, b1⟩ := hbb
      have HBI := Lib.hid hb
      clear hb
      go_wp2_with (go_at_call 54; (with_reducible refine (refbit_any x h _ hx0 hx (by omega) (by omega)).mono ?_); rintro e w' ⟨rfl, hb⟩; rw [HBI.out]; obtain ⟨hz, hc, hf⟩ := bcell hb; (try simp only [World.size_alloc, World.size_drew, World.heap_drewN, World.size_setCell] at hz); (try have hs0 : w.heap.size < w'.heap.size := by omega); (try have hs1 : w.heap.size + 1 < w'.heap.size := by omega); (try have hs2 : w.heap.size + 2 < w'.heap.size := by omega))
      · have hb1 : b = 1 := by
          have : (b == 1) = true := by assumption
          simpa using this
        have e := HE.out
        rw [if_pos hb1] at e
        go_ret
        have hB := HB.out
        exact ⟨ret_i e, (by repeat (first | (with_reducible exact Below.refl _ _) | (with_reducible assumption) | (with_reducible refine bthen (by with_reducible assumption) ?_) | (with_reducible refine balloc _ ?_) | (with_reducible refine bdrewN _ ?_) | (with_reducible refine bdrew ?_) | (with_reducible refine bset (by first | exact Nat.le_refl _ | (dsimp only; omega)) ?_)))⟩
      · have hb1 : ¬ b = 1 := by
          have : (b == 1) = false := by assumption
          simpa using this
        have e := HE.out
        rw [if_neg hb1] at e
        go_ret
        have hB := HB.out
        exact ⟨ret_i e, (by repeat (first | (with_reducible exact Below.refl _ _) | (with_reducible assumption) | (with_reducible refine bthen (by with_reducible assumption) ?_) | (with_reducible refine balloc _ ?_) | (with_reducible refine bdrewN _ ?_) | (with_reducible refine bdrew ?_) | (with_reducible refine bset (by first | exact Nat.le_refl _ | (dsimp only; omega)) ?_)))⟩
end Go.Proofs.YtailocbophkmmaaDoor
