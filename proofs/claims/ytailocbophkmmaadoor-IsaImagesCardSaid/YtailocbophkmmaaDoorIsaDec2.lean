/-
  Package isa: Decode, the plain law of its loop.
-/
import Derived.Test.YtailocbophkmmaaDoorIsaDecode
namespace Go.Proofs.YtailocbophkmmaaDoor
open Go.RowKit FP

/-- Row j takes the word. -/
def RowAcc (j : Nat) (x : Int) : Prop := bits .and .u32 x (rowMask j) = rowWord j ∧ Acc x (rowOp j) (dOf (rowOp j) x) (nOf (rowOp j) x) (mOf (rowOp j) x) (rowImm j x)
theorem dec_none {x : Int} (h : ∀ j, j < 19 → ¬ RowAcc j x) : ∀ op d n m imm, ¬ Acc x op d n m imm := by
  intro op d n m imm ha
  obtain ⟨x0, x1, ho, hd, hn, hm, hi⟩ := acc_read ha
  have ha2 := ha
  obtain ⟨hk, h18, -⟩ := ha2
  have h0 := (okB_cases hk).1
  obtain ⟨k, rfl⟩ := Int.eq_ofNat_of_zero_le h0.1
  have hmk := acc_mask ha
  by_cases h7 : k = 7 ∧ imm < 0
  · obtain ⟨rfl, hneg⟩ := h7
    refine h 18 (by omega) ⟨by rw [if_pos ⟨rfl, hneg⟩] at hmk; exact hmk, ?_⟩
    have e : rowImm 18 x = imm := by
      rw [hi]
      simp only [rowImm, immOf, if_true]
      rw [hi] at hneg
      simp [immOf] at hneg
      by_cases hc : x / 1073741824 = 3
      · simp [hc]
      · rw [if_neg hc] at hneg; omega
    show Acc x 7 (dOf 7 x) (nOf 7 x) (mOf 7 x) (rowImm 18 x)
    rw [e]
    have hd' : d = dOf 7 x := hd
    have hn' : n = nOf 7 x := hn
    have hm' : m = mOf 7 x := hm
    rw [← hd', ← hn', ← hm']
    exact ha
  · have hk18 : k ≠ 18 := by intro e; apply h18; omega
    have e1 : rowOp k = k := if_neg hk18
    have e2 : rowMask k = maskI k := if_neg hk18
    have e3 : rowWord k = wordI k := if_neg hk18
    rw [if_neg h7] at hmk
    refine h k (by omega) ⟨by rw [e2, e3]; exact hmk, ?_⟩
    have e : rowImm k x = imm := by
      simp only [rowImm, hk18, if_false]
      by_cases k7 : k = 7
      · subst k7
        have hp : ¬ imm < 0 := fun hc => h7 ⟨rfl, hc⟩
        rw [hi] at hp ⊢
        simp [immOf] at hp ⊢
        by_cases hc : x / 1073741824 = 3
        · simp [hc] at hp ⊢; omega
        · simp [hc]
      · rw [if_neg k7, hi]
    rw [e1, e, ← hd, ← hn, ← hm]
    exact ha
end Go.Proofs.YtailocbophkmmaaDoor
