/-
  Bits of words: plain laws.
-/
import Derived.Laws.BitsAllLaws
namespace Go.Proofs.YtailocbophkmmaaDoor.FP
open Go
theorem disj_add : ∀ (n a b : Nat), a ≤ n → a &&& b = 0 → a ||| b = a + b := by
  intro n
  induction n with
  | zero => intro a b h _; have : a = 0 := by omega
            subst this; simp
  | succ n ih =>
    intro a b h h0
    have hd : a / 2 &&& b / 2 = 0 := by rw [← Nat.and_div_two, h0]
    have h1 := ih (a / 2) (b / 2) (by omega) hd
    rw [← Nat.or_div_two] at h1
    have hm : (a ||| b) % 2 = a % 2 ||| b % 2 := by have := Nat.or_mod_two_pow (a := a) (b := b) (n := 1); simpa using this
    have hm0 : a % 2 &&& b % 2 = 0 := by have := Nat.and_mod_two_pow (a := a) (b := b) (n := 1); rw [h0] at this; simpa using this.symm
    have k00 : (0 ||| 0 : Nat) = 0 := rfl
    have k01 : (0 ||| 1 : Nat) = 1 := rfl
    have k10 : (1 ||| 0 : Nat) = 1 := rfl
    have k11 : ¬ ((1 &&& 1 : Nat) = 0) := by decide
    rcases Nat.mod_two_eq_zero_or_one a with ha | ha <;> rcases Nat.mod_two_eq_zero_or_one b with hb | hb <;> rw [ha, hb] at hm hm0
    · rw [k00] at hm; omega
    · rw [k01] at hm; omega
    · rw [k10] at hm; omega
    · exact absurd hm0 k11
theorem and_mask (x n l : Nat) : x &&& ((2 ^ n - 1) * 2 ^ l) = (x / 2 ^ l % 2 ^ n) * 2 ^ l := by
  apply Nat.eq_of_testBit_eq
  intro i
  rw [Nat.testBit_and, Nat.testBit_mul_two_pow, Nat.testBit_mul_two_pow, Nat.testBit_two_pow_sub_one, Nat.testBit_mod_two_pow, Nat.testBit_div_two_pow]
  by_cases h : l ≤ i
  · simp only [h, decide_true, Bool.true_and, Nat.sub_add_cancel]
    exact Bool.and_comm _ _
  · simp [h]
theorem mask_lt (n l N : Nat) (hN : l + n ≤ N) : (2 ^ n - 1) * 2 ^ l < 2 ^ N := by
  have h1 : (2 ^ n - 1) * 2 ^ l < 2 ^ n * 2 ^ l := by
    apply Nat.mul_lt_mul_of_pos_right _ (Nat.two_pow_pos l)
    have := Nat.two_pow_pos n; omega
  have h2 : 2 ^ n * 2 ^ l ≤ 2 ^ N := by rw [← Nat.pow_add]; exact Nat.pow_le_pow_right (by omega) (by omega)
  omega
theorem and_compl (x m N : Nat) (hx : x < 2 ^ N) (hm : m < 2 ^ N) : x &&& (2 ^ N - 1 - m) = x - (x &&& m) := by
  have e : 2 ^ N - 1 - m = 2 ^ N - (m + 1) := by omega
  have ho : (x &&& (2 ^ N - 1 - m)) &&& (x &&& m) = 0 := by
    apply Nat.eq_of_testBit_eq
    intro i
    rw [Nat.testBit_and, Nat.testBit_and, Nat.testBit_and, e, Nat.testBit_two_pow_sub_succ hm]
    cases x.testBit i <;> cases m.testBit i <;> simp
  have hs : (x &&& (2 ^ N - 1 - m)) ||| (x &&& m) = x := by
    apply Nat.eq_of_testBit_eq
    intro i
    rw [Nat.testBit_or, Nat.testBit_and, Nat.testBit_and, e, Nat.testBit_two_pow_sub_succ hm]
    by_cases hi : i < N
    · cases x.testBit i <;> cases m.testBit i <;> simp [hi]
    · have : x.testBit i = false := Nat.testBit_lt_two_pow (Nat.lt_of_lt_of_le hx (Nat.pow_le_pow_right (by omega) (by omega)))
      simp [this]
  rw [disj_add _ _ _ (Nat.le_refl _) ho] at hs
  omega
theorem andc_mask (x n l N : Nat) (hx : x < 2 ^ N) (hN : l + n ≤ N) : x &&& (2 ^ N - 1 - (2 ^ n - 1) * 2 ^ l) = x - (x / 2 ^ l % 2 ^ n) * 2 ^ l := by
  rw [and_compl x _ N hx (mask_lt n l N hN), and_mask]
theorem field_le (x n l : Nat) : x / 2 ^ l % 2 ^ n * 2 ^ l ≤ x :=
  Nat.le_trans (Nat.mul_le_mul_right _ (Nat.mod_le _ _)) (Nat.div_mul_le_self _ _)
/-- a word whose field is 0, or'ed with a value in that field -/
theorem or_field (x v n l : Nat) (hv : v < 2 ^ n) : (x - (x / 2 ^ l % 2 ^ n) * 2 ^ l) ||| v * 2 ^ l = x - (x / 2 ^ l % 2 ^ n) * 2 ^ l + v * 2 ^ l := by
  apply disj_add _ _ _ (Nat.le_refl _)
  have hl := Nat.two_pow_pos l
  -- x = q * 2^l + r
  have hx := Nat.div_add_mod x (2 ^ l)
  have hq := Nat.div_add_mod (x / 2 ^ l) (2 ^ n)
  have hr := Nat.mod_lt x hl
  have e : x - (x / 2 ^ l % 2 ^ n) * 2 ^ l = 2 ^ l * (2 ^ n * (x / 2 ^ l / 2 ^ n)) + x % 2 ^ l := by
    have h3 : 2 ^ l * (x / 2 ^ l) = 2 ^ l * (2 ^ n * (x / 2 ^ l / 2 ^ n)) + (x / 2 ^ l % 2 ^ n) * 2 ^ l := by
      rw [Nat.mul_comm (x / 2 ^ l % 2 ^ n), ← Nat.mul_add, hq]
    omega
  rw [e]
  apply Nat.eq_of_testBit_eq
  intro i
  rw [Nat.testBit_and, Nat.testBit_two_pow_mul_add _ hr, Nat.testBit_mul_two_pow]
  by_cases hi : i < l
  · simp [hi]; intro; omega
  · have hi' : l ≤ i := by omega
    simp only [hi, if_false, hi', decide_true, Bool.true_and, Nat.zero_testBit]
    have : 2 ^ n * (x / 2 ^ l / 2 ^ n) = 2 ^ n * (x / 2 ^ l / 2 ^ n) + 0 := rfl
    rw [this, Nat.testBit_two_pow_mul_add _ (Nat.two_pow_pos n)]
    by_cases hn : i - l < n
    · simp [hn]
    · have : v.testBit (i - l) = false := Nat.testBit_lt_two_pow (Nat.lt_of_lt_of_le hv (Nat.pow_le_pow_right (by omega) (by omega)))
      simp [this]
theorem ones_nat (h l : Nat) (h1 : l ≤ h) (h2 : h ≤ 63) : (18446744073709551615 / 2 ^ (63 - (h - l)) * 2 ^ l) % 18446744073709551616 = (2 ^ (h - l + 1) - 1) * 2 ^ l := by
  have e : (18446744073709551615 : Nat) / 2 ^ (63 - (h - l)) = 2 ^ (h - l + 1) - 1 := by
    obtain ⟨d, hd, hd'⟩ : ∃ d, h - l = d ∧ d ≤ 63 := ⟨h - l, rfl, by omega⟩
    rw [hd]
    have h3 : (2 ^ (63 - d)) * 2 ^ (d + 1) = 18446744073709551616 := by rw [← Nat.pow_add, show 63 - d + (d + 1) = 64 by omega]
    have hp := Nat.two_pow_pos (63 - d)
    have hq := Nat.two_pow_pos (d + 1)
    apply Nat.div_eq_of_lt_le
    · have : (2 ^ (d + 1) - 1) * 2 ^ (63 - d) = 18446744073709551616 - 2 ^ (63 - d) := by rw [Nat.sub_mul, Nat.one_mul, Nat.mul_comm, h3]
      omega
    · rw [show 2 ^ (d + 1) - 1 + 1 = 2 ^ (d + 1) by omega, Nat.mul_comm, h3]; omega
  rw [e]
  exact Nat.mod_eq_of_lt (mask_lt (h - l + 1) l 64 (by omega))
/-- The bits from l to h of a word. -/
def getI (x h l : Int) : Int := x / 2 ^ l.toNat % 2 ^ (h - l + 1).toNat
/-- The word with v in its bits from l to h. -/
def putI (x h l v : Int) : Int := x - getI x h l * 2 ^ l.toNat + v * 2 ^ l.toNat
def onesI (h l : Int) : Int := (2 ^ (h - l + 1).toNat - 1) * 2 ^ l.toNat

theorem ones_eq (h l : Int) (h0 : 0 ≤ l) (h1 : l ≤ h) (h2 : h ≤ 63) : IntKind.u64.wrap (18446744073709551615 / 2 ^ (63 - (h - l)).toNat * 2 ^ l.toNat) = onesI h l := by
  obtain ⟨l, rfl⟩ := Int.eq_ofNat_of_zero_le h0
  obtain ⟨h, rfl⟩ := Int.eq_ofNat_of_zero_le (a := h) (by omega)
  have e1 : (63 - ((h : Int) - l)).toNat = 63 - (h - l) := by omega
  have e2 : ((h : Int) - l + 1).toNat = h - l + 1 := by omega
  have := ones_nat h l (by omega) (by omega)
  rw [e1, Int.toNat_natCast, onesI, e2, Int.toNat_natCast]
  have hp : 1 ≤ 2 ^ (h - l + 1) := Nat.two_pow_pos _
  have hw : ∀ n : Int, IntKind.u64.wrap n = n % 18446744073709551616 := fun n => by simp [IntKind.wrap, IntKind.bits, IntKind.signed]
  rw [hw]
  have k := congrArg (fun n : Nat => (n : Int)) this
  simp only [Int.natCast_emod, Int.natCast_mul, Int.natCast_ediv, Int.natCast_pow, Int.natCast_sub hp] at k
  simpa using k
theorem onesI_nat (h l : Nat) : onesI h l = (((2 ^ (h - l + 1) - 1) * 2 ^ l : Nat) : Int) ∨ ¬ l ≤ h := by
  by_cases hl : l ≤ h
  · left
    have hp : 1 ≤ 2 ^ (h - l + 1) := Nat.two_pow_pos _
    have e2 : ((h : Int) - l + 1).toNat = h - l + 1 := by omega
    rw [onesI, e2, Int.toNat_natCast, Int.natCast_mul, Int.natCast_sub hp]
    simp
  · exact .inr hl
theorem getI_nat (x h l : Nat) (hl : l ≤ h) : getI x h l = ((x / 2 ^ l % 2 ^ (h - l + 1) : Nat) : Int) := by
  have e2 : ((h : Int) - l + 1).toNat = h - l + 1 := by omega
  rw [getI, e2, Int.toNat_natCast]
  simp
theorem getI_bd (x h l : Int) : 0 ≤ getI x h l ∧ getI x h l < 2 ^ (h - l + 1).toNat := by
  have : (0 : Int) < 2 ^ (h - l + 1).toNat := by exact_mod_cast Nat.two_pow_pos _
  exact ⟨Int.emod_nonneg _ (by omega), Int.emod_lt_of_pos _ this⟩
theorem get_eq (x h l : Int) (hx0 : 0 ≤ x) (hx : x < 18446744073709551616) (h0 : 0 ≤ l) (h1 : l ≤ h) (h2 : h ≤ 63) : bits .and .u64 x (onesI h l) / 2 ^ l.toNat = getI x h l := by
  obtain ⟨l, rfl⟩ := Int.eq_ofNat_of_zero_le h0
  obtain ⟨h, rfl⟩ := Int.eq_ofNat_of_zero_le (a := h) (by omega)
  obtain ⟨x, rfl⟩ := Int.eq_ofNat_of_zero_le hx0
  rw [(onesI_nat h l).resolve_right (by omega), getI_nat x h l (by omega)]
  have hm := mask_lt (h - l + 1) l 64 (by omega)
  rw [u64_and_nat x _ (by omega) (by simpa using hm), and_mask, Int.toNat_natCast]
  have : (((x / 2 ^ l % 2 ^ (h - l + 1) * 2 ^ l : Nat) : Int)) / 2 ^ l = ((x / 2 ^ l % 2 ^ (h - l + 1) * 2 ^ l / 2 ^ l : Nat) : Int) := by simp
  rw [this, Nat.mul_div_cancel _ (Nat.two_pow_pos l)]
theorem put_eq (x h l v : Int) (hx0 : 0 ≤ x) (hx : x < 18446744073709551616) (h0 : 0 ≤ l) (h1 : l ≤ h) (h2 : h ≤ 63) (hv0 : 0 ≤ v) (hv : v < 2 ^ (h - l + 1).toNat) :
    bits .or .u64 (bits .andNot .u64 x (onesI h l)) (IntKind.u64.wrap (v * 2 ^ l.toNat)) = putI x h l v := by
  obtain ⟨l, rfl⟩ := Int.eq_ofNat_of_zero_le h0
  obtain ⟨h, rfl⟩ := Int.eq_ofNat_of_zero_le (a := h) (by omega)
  obtain ⟨x, rfl⟩ := Int.eq_ofNat_of_zero_le hx0
  obtain ⟨v, rfl⟩ := Int.eq_ofNat_of_zero_le hv0
  have e2 : ((h : Int) - l + 1).toNat = h - l + 1 := by omega
  rw [e2] at hv
  have hv' : v < 2 ^ (h - l + 1) := by exact_mod_cast hv
  have hm := mask_lt (h - l + 1) l 64 (by omega)
  have hvm : v * 2 ^ l < 2 ^ 64 := by
    have a1 : v * 2 ^ l ≤ (2 ^ (h - l + 1) - 1) * 2 ^ l := Nat.mul_le_mul_right _ (by omega)
    omega
  rw [putI, (onesI_nat h l).resolve_right (by omega), getI_nat x h l (by omega), u64_andNot_nat x _ (by omega) (by simpa using hm)]
  have hw : IntKind.u64.wrap ((v : Int) * 2 ^ (l : Int).toNat) = ((v * 2 ^ l : Nat) : Int) := by
    have e : (v : Int) * 2 ^ (l : Int).toNat = ((v * 2 ^ l : Nat) : Int) := by simp
    rw [e]
    have hw : ∀ n : Int, IntKind.u64.wrap n = n % 18446744073709551616 := fun n => by simp [IntKind.wrap, IntKind.bits, IntKind.signed]
    rw [hw]; omega
  have a2 := andc_mask x (h - l + 1) l 64 (by simpa using (show x < 2 ^ 64 by omega)) (by omega)
  have a3 : (18446744073709551615 : Nat) = 2 ^ 64 - 1 := by decide
  have hf := field_le x (h - l + 1) l
  rw [hw, a3, a2, u64_or_nat _ _ (by omega) (by omega), or_field x v (h - l + 1) l hv', Int.toNat_natCast]
  simp only [Int.natCast_add, Int.natCast_sub hf, Int.natCast_mul, Int.natCast_pow]
  rfl
theorem putI_bd (x h l v : Int) (hx0 : 0 ≤ x) (hx : x < 18446744073709551616) (h0 : 0 ≤ l) (h1 : l ≤ h) (h2 : h ≤ 63) (hv0 : 0 ≤ v) (hv : v < 2 ^ (h - l + 1).toNat) : 0 ≤ putI x h l v ∧ putI x h l v < 18446744073709551616 := by
  rw [← put_eq x h l v hx0 hx h0 h1 h2 hv0 hv]
  have := (BitVec.ofInt 64 (bits .andNot .u64 x (onesI h l)) ||| BitVec.ofInt 64 (IntKind.u64.wrap (v * 2 ^ l.toNat))).isLt
  simp [bits, IntKind.bits, IntKind.signed, IntKind.wrap]
  omega
theorem wrapU (n : Int) : IntKind.u64.wrap n = n % 18446744073709551616 := by simp [IntKind.wrap, IntKind.bits, IntKind.signed]
theorem shl_nat (v l : Nat) : IntKind.u64.wrap ((v : Int) * 2 ^ (l : Int).toNat) = ((v * 2 ^ l % 2 ^ 64 : Nat) : Int) := by
  rw [wrapU, Int.toNat_natCast]
  simp
theorem shl_back (v l : Nat) (hl : l ≤ 64) : v * 2 ^ l % 2 ^ 64 / 2 ^ l = v % 2 ^ (64 - l) := by
  have e : 2 ^ 64 = 2 ^ (64 - l) * 2 ^ l := by rw [← Nat.pow_add]; congr 1; omega
  rw [e, Nat.mul_mod_mul_right, Nat.mul_div_cancel _ (Nat.two_pow_pos l)]
theorem fits_nat (v n l : Nat) (hN : l + n ≤ 64) (hb : v * 2 ^ l % 2 ^ 64 / 2 ^ l = v) : v * 2 ^ l % 2 ^ 64 - (v * 2 ^ l % 2 ^ 64 / 2 ^ l % 2 ^ n) * 2 ^ l = (v - v % 2 ^ n) * 2 ^ l := by
  have h1 := shl_back v l (by omega)
  rw [hb] at h1
  have hv : v < 2 ^ (64 - l) := by rw [h1]; exact Nat.mod_lt _ (Nat.two_pow_pos _)
  have hlt : v * 2 ^ l < 2 ^ 64 := by
    have : v * 2 ^ l < 2 ^ (64 - l) * 2 ^ l := Nat.mul_lt_mul_of_pos_right hv (Nat.two_pow_pos l)
    rw [← Nat.pow_add] at this
    rw [show 64 - l + l = 64 by omega] at this
    exact this
  rw [Nat.mod_eq_of_lt hlt, Nat.mul_div_cancel _ (Nat.two_pow_pos l), Nat.sub_mul]
/-- Does the value go into the field? -/
def fitsB (v h l : Int) : Bool := decide (v < 2 ^ (h - l + 1).toNat)
theorem fits_yes (v h l : Int) (h0 : 0 ≤ l) (h1 : l ≤ h) (h2 : h ≤ 63) (hv0 : 0 ≤ v) (hv1 : v < 18446744073709551616) (hb : IntKind.u64.wrap (v * 2 ^ l.toNat) / 2 ^ l.toNat = v) :
    (bits .andNot .u64 (IntKind.u64.wrap (v * 2 ^ l.toNat)) (onesI h l) == 0) = fitsB v h l := by
  obtain ⟨l, rfl⟩ := Int.eq_ofNat_of_zero_le h0
  obtain ⟨h, rfl⟩ := Int.eq_ofNat_of_zero_le (a := h) (by omega)
  obtain ⟨v, rfl⟩ := Int.eq_ofNat_of_zero_le hv0
  have hm := mask_lt (h - l + 1) l 64 (by omega)
  have e2 : ((h : Int) - l + 1).toNat = h - l + 1 := by omega
  rw [shl_nat, Int.toNat_natCast] at hb
  have hb' : v * 2 ^ l % 2 ^ 64 / 2 ^ l = v := by exact_mod_cast hb
  have hlt : v * 2 ^ l % 2 ^ 64 < 2 ^ 64 := Nat.mod_lt _ (by decide)
  have a2 := andc_mask (v * 2 ^ l % 2 ^ 64) (h - l + 1) l 64 hlt (by omega)
  have a3 : (18446744073709551615 : Nat) = 2 ^ 64 - 1 := by decide
  rw [shl_nat, (onesI_nat h l).resolve_right (by omega), u64_andNot_nat _ _ (by simpa using hlt) (by simpa using hm), a3, a2, fits_nat v (h - l + 1) l (by omega) hb', fitsB, e2]
  have hp := Nat.two_pow_pos l
  have hq := Nat.two_pow_pos (h - l + 1)
  by_cases hv : v < 2 ^ (h - l + 1)
  · rw [Nat.mod_eq_of_lt hv, Nat.sub_self, Nat.zero_mul, decide_eq_true (by exact_mod_cast hv)]; rfl
  · have hmod := Nat.mod_lt v hq
    have : 0 < (v - v % 2 ^ (h - l + 1)) * 2 ^ l := Nat.mul_pos (by omega) hp
    rw [decide_eq_false (by exact_mod_cast hv), beq_eq_false_iff_ne]
    omega
theorem fits_no (v h l : Int) (h0 : 0 ≤ l) (h1 : l ≤ h) (h2 : h ≤ 63) (hv0 : 0 ≤ v) (hb : ¬ IntKind.u64.wrap (v * 2 ^ l.toNat) / 2 ^ l.toNat = v) : fitsB v h l = false := by
  obtain ⟨l, rfl⟩ := Int.eq_ofNat_of_zero_le h0
  obtain ⟨h, rfl⟩ := Int.eq_ofNat_of_zero_le (a := h) (by omega)
  obtain ⟨v, rfl⟩ := Int.eq_ofNat_of_zero_le hv0
  have e2 : ((h : Int) - l + 1).toNat = h - l + 1 := by omega
  rw [fitsB, e2]
  apply decide_eq_false
  intro hv
  have hv' : v < 2 ^ (h - l + 1) := by exact_mod_cast hv
  apply hb
  have hb1 := shl_back v l (by omega)
  rw [Nat.mod_eq_of_lt (Nat.lt_of_lt_of_le hv' (Nat.pow_le_pow_right (by omega) (by omega)))] at hb1
  rw [shl_nat, Int.toNat_natCast]
  exact_mod_cast hb1
end Go.Proofs.YtailocbophkmmaaDoor.FP
