/-
  Words and instructions: the masks' bits.
-/
import Derived.Test.YtailocbophkmmaaDoorIsaPure
import Derived.Test.YtailocbophkmmaaDoorIsaTable
import Derived.Laws.BitsAllLaws
namespace Go.Proofs.YtailocbophkmmaaDoor
open Go.RowKit FP

theorem and_shift (x a k : Nat) : x &&& (a * 2 ^ k) = ((x / 2 ^ k) &&& a) * 2 ^ k := by
  apply Nat.eq_of_testBit_eq
  intro i
  simp only [Nat.testBit_and, Nat.testBit_mul_two_pow, Nat.testBit_div_two_pow]
  by_cases h : k ≤ i
  · have e : i - k + k = i := by omega
    simp [h, e]
  · simp [h]
theorem and_high (x n k : Nat) : x &&& ((2 ^ n - 1) * 2 ^ k) = x / 2 ^ k % 2 ^ n * 2 ^ k := by
  rw [and_shift, Nat.and_two_pow_sub_one_eq_mod]
theorem and_two (x : Nat) : x &&& 4292934656 = x / 2 ^ 21 % 2 ^ 11 * 2 ^ 21 + x / 2 ^ 10 % 2 ^ 6 * 2 ^ 10 := by
  have e : 4292934656 = ((2 ^ 11 - 1) * 2 ^ 21) ||| ((2 ^ 6 - 1) * 2 ^ 10) := by decide
  rw [e, Nat.and_or_distrib_left, and_high, and_high, Nat.mul_comm (x / 2 ^ 21 % 2 ^ 11) (2 ^ 21)]
  exact (Nat.two_pow_add_eq_or_of_lt (by have := Nat.mod_lt (x / 2 ^ 10) (show 0 < 2 ^ 6 by decide); omega) _).symm
theorem mask_all (x : Nat) (h : x < 4294967296) : x &&& 4294967295 = x := by
  have e : 4294967295 = (2 ^ 32 - 1) * 2 ^ 0 := by decide
  rw [e, and_high]; omega
theorem mask_mov (x : Nat) (h : x < 4294967296) : x &&& 4292870144 = x / 2097152 * 2097152 := by
  have e : 4292870144 = (2 ^ 11 - 1) * 2 ^ 21 := by decide
  rw [e, and_high]; omega
theorem mask_addi (x : Nat) (h : x < 4294967296) : x &&& 4290772992 = x / 4194304 * 4194304 := by
  have e : 4290772992 = (2 ^ 10 - 1) * 2 ^ 22 := by decide
  rw [e, and_high]; omega
theorem mask_ldr (x : Nat) (h : x < 4294967296) : x &&& 4294966272 = x / 1024 * 1024 := by
  have e : 4294966272 = (2 ^ 22 - 1) * 2 ^ 10 := by decide
  rw [e, and_high]; omega
theorem mask_b (x : Nat) (h : x < 4294967296) : x &&& 4227858432 = x / 67108864 * 67108864 := by
  have e : 4227858432 = (2 ^ 6 - 1) * 2 ^ 26 := by decide
  rw [e, and_high]; omega
theorem mask_cbz (x : Nat) (h : x < 4294967296) : x &&& 4278190080 = x / 16777216 * 16777216 := by
  have e : 4278190080 = (2 ^ 8 - 1) * 2 ^ 24 := by decide
  rw [e, and_high]; omega
set_option maxHeartbeats 4000000 in
/-- The bits that are no fields are the operation's word. -/
theorem acc_mask {x : Int} {k : Nat} {d n m imm : Int} (h : Acc x k d n m imm) : bits .and .u32 x (maskI k) = if k = 7 ∧ imm < 0 then 3506438144 else wordI k := by
  have hx := acc_read h
  obtain ⟨x0, x1, -⟩ := hx
  obtain ⟨h, h18, he⟩ := h
  obtain ⟨h0, hd, hn, hm, zd, zn, zm, il, im⟩ := okB_cases h
  clear h
  obtain ⟨u, rfl⟩ := Int.eq_ofNat_of_zero_le x0
  have hu : u < 4294967296 := by omega
  simp only [Int.toNat_natCast] at zd zn zm il im
  obtain rfl | rfl | rfl | rfl | rfl | rfl | rfl | rfl | rfl | rfl | rfl | rfl | rfl | rfl | rfl | rfl | rfl | rfl : k = 0 ∨ k = 1 ∨ k = 2 ∨ k = 3 ∨ k = 4 ∨ k = 5 ∨ k = 6 ∨ k = 7 ∨ k = 8 ∨ k = 9 ∨ k = 10 ∨ k = 11 ∨ k = 12 ∨ k = 13 ∨ k = 14 ∨ k = 15 ∨ k = 16 ∨ k = 17 := by omega
  all_goals
    simp [hasD, hasN, hasM, leastI, mostI, encI, wordI, immI] at zd zn zm il im he
    clear h18 h0
    (first
      | rw [show maskI _ = ((4294967295 : Nat) : Int) from rfl, u32_and_nat u _ hu (by omega), mask_all u hu]
      | rw [show maskI _ = ((4292870144 : Nat) : Int) from rfl, u32_and_nat u _ hu (by omega), mask_mov u hu]
      | rw [show maskI _ = ((4292934656 : Nat) : Int) from rfl, u32_and_nat u _ hu (by omega), and_two u]
      | rw [show maskI _ = ((4290772992 : Nat) : Int) from rfl, u32_and_nat u _ hu (by omega), mask_addi u hu]
      | rw [show maskI _ = ((4294966272 : Nat) : Int) from rfl, u32_and_nat u _ hu (by omega), mask_ldr u hu]
      | rw [show maskI _ = ((4227858432 : Nat) : Int) from rfl, u32_and_nat u _ hu (by omega), mask_b u hu]
      | rw [show maskI _ = ((4278190080 : Nat) : Int) from rfl, u32_and_nat u _ hu (by omega), mask_cbz u hu])
    (try by_cases hneg : imm < 0) <;> (try simp only [hneg, if_true, if_false] at he) <;> simp [wordI, *] <;> omega
theorem acc_uniq {x op d n m imm op' d' n' m' imm' : Int} (h : Acc x op d n m imm) (h' : Acc x op' d' n' m' imm') : op = op' ∧ d = d' ∧ n = n' ∧ m = m' ∧ imm = imm' := by
  obtain ⟨-, -, a, b, c, e, f⟩ := acc_read h
  obtain ⟨-, -, a', b', c', e', f'⟩ := acc_read h'
  have ho : op = op' := a.trans a'.symm
  subst ho
  exact ⟨rfl, b.trans b'.symm, c.trans c'.symm, e.trans e'.symm, f.trans f'.symm⟩
end Go.Proofs.YtailocbophkmmaaDoor
