/-
  Words and instructions, with no program in sight.
-/
import Derived.Test.YtailocbophkmmaaDoorIsaEnc2
import Derived.Test.YtailocbophkmmaaDoorIsaRead
namespace Go.Proofs.YtailocbophkmmaaDoor
open Go.RowKit FP

/-- x is the word of this instruction. -/
def Acc (x op d n m imm : Int) : Prop := okB op d n m imm = true ∧ op ≠ 18 ∧ encI op d n m imm = x
/-- Which operation a word may be of. -/
def opOf (x : Int) : Int :=
  if x / 16777216 = 213 then (if x = 3573751839 then 0 else 13) else if x / 16777216 = 210 then 1 else if x / 16777216 = 139 then 2 else if x / 16777216 = 203 then 3 else if x / 16777216 = 138 then 4
  else if x / 16777216 = 170 then 5 else if x / 16777216 = 202 then 6 else if x / 16777216 = 145 then 7 else if x / 16777216 = 209 then 7 else if x / 16777216 = 249 then (if x % 16777216 < 4194304 then 9 else 8)
  else if x / 16777216 = 200 then (if x % 16777216 < 524288 then 11 else if x % 16777216 < 6291456 then 10 else 12) else if x / 16777216 = 212 then 17 else if x / 16777216 = 180 then 15 else if x / 16777216 = 181 then 16 else 14
/-- Imm out of a word. -/
def immOf (op x : Int) : Int := if op = 1 then x / 32 % 65536 else if op = 7 then (if x / 1073741824 = 3 then -(x / 1024 % 4096) else x / 1024 % 4096) else if op = 14 then sgnI x 33554432 else if op = 15 ∨ op = 16 then sgnI (x / 32) 262144 else 0
def dOf (op x : Int) : Int := if hasD op.toNat then fldI x 0 else 0
def nOf (op x : Int) : Int := if hasN op.toNat then fldI x 5 else 0
def mOf (op x : Int) : Int := if hasM op.toNat then fldI x 16 else 0
theorem fld0 (x : Int) : fldI x 0 = x % 32 := by simp [fldI]
theorem fld5 (x : Int) : fldI x 5 = x / 32 % 32 := by simp [fldI]
theorem fld16 (x : Int) : fldI x 16 = x / 65536 % 32 := by simp [fldI]
set_option maxHeartbeats 4000000 in
/-- The word tells its instruction. -/
theorem acc_read {x op d n m imm : Int} (h : Acc x op d n m imm) : 0 ≤ x ∧ x < 4294967296 ∧ op = opOf x ∧ d = dOf op x ∧ n = nOf op x ∧ m = mOf op x ∧ imm = immOf op x := by
  obtain ⟨h, h18, he⟩ := h
  obtain ⟨h0, hd, hn, hm, zd, zn, zm, il, im⟩ := okB_cases h
  clear h
  obtain ⟨k, rfl⟩ := Int.eq_ofNat_of_zero_le h0.1
  simp only [Int.toNat_natCast] at zd zn zm il im
  obtain rfl | rfl | rfl | rfl | rfl | rfl | rfl | rfl | rfl | rfl | rfl | rfl | rfl | rfl | rfl | rfl | rfl | rfl : k = 0 ∨ k = 1 ∨ k = 2 ∨ k = 3 ∨ k = 4 ∨ k = 5 ∨ k = 6 ∨ k = 7 ∨ k = 8 ∨ k = 9 ∨ k = 10 ∨ k = 11 ∨ k = 12 ∨ k = 13 ∨ k = 14 ∨ k = 15 ∨ k = 16 ∨ k = 17 := by omega
  all_goals
    simp [hasD, hasN, hasM, leastI, mostI, encI, wordI, immI] at zd zn zm il im he
    clear h18 h0
    (try by_cases hneg : imm < 0) <;> (try simp only [hneg, if_true, if_false] at he) <;>
    refine ⟨by omega, by omega, ?_, ?_, ?_, ?_, ?_⟩ <;>
    simp only [dOf, nOf, mOf, immOf, fld0, fld5, fld16, hasD, hasN, hasM, opOf, sgnI, Int.toNat_natCast] <;>
    (try simp) <;>
    (repeat (first | rw [if_pos (by omega)] | rw [if_neg (by omega)])) <;>
    (first | done | omega)
end Go.Proofs.YtailocbophkmmaaDoor
