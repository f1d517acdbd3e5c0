/-
  strconv.FormatUint at base 16, and strconv.Itoa at one digit.
-/
import Derived.Test.YtailocbophkmmaaDoorBase
import Derived.Laws.BytesArg
namespace Go.Proofs.YtailocbophkmmaaDoor
open Go.RowKit

/-- Of the library's table the one place that base 16 reads. -/
def Tab64 (w : World) : Prop := w.cell? ⟨7, 15, none⟩ = some (.int .u8 4)
theorem Tab64.below {w w' : World} (h : Tab64 w) (hb : Below w.heap.size w w') : Tab64 w' := (hb.cell (p := ⟨_, _, none⟩) (World.block_lt_of_cell? w _ h)).trans h
theorem tz64_16 (w : World) (hT : Tab64 w) :
    Calls Tryd.prog 84 #[.int .u64 16] w fun e w' => e = .returned (.int .i64 4) ∧ Below w.heap.size w w' := by
  have h : w.cell? ⟨7, 15, none⟩ = some (.int .u8 4) := hT
  clear hT
  have k1 : bits BinOp.and IntKind.u64 16 (IntKind.u64.wrap (-16)) = 16 := by decide
  go_enter Tryd.func84, Tryd.ntmps84
  go_wp2
  go_ret
  exact ⟨rfl, (by repeat (first | (with_reducible exact Below.refl _ _) | (with_reducible assumption) | (with_reducible refine bthen (by with_reducible assumption) ?_) | (with_reducible refine balloc _ ?_) | (with_reducible refine bdrewN _ ?_) | (with_reducible refine bdrew ?_) | (with_reducible refine bset (by first | exact Nat.le_refl _ | (dsimp only; omega)) ?_)))⟩
theorem pow2_16 (w : World) :
    Calls Tryd.prog 77 #[.int .i64 16] w fun e w' => e = .returned (.bool true) ∧ Below w.heap.size w w' := by
  go_enter Tryd.func77, Tryd.ntmps77
  go_wp2
  go_ret
  exact ⟨rfl, (by repeat (first | (with_reducible exact Below.refl _ _) | (with_reducible assumption) | (with_reducible refine bthen (by with_reducible assumption) ?_) | (with_reducible refine balloc _ ?_) | (with_reducible refine bdrewN _ ?_) | (with_reducible refine bdrew ?_) | (with_reducible refine bset (by first | exact Nat.le_refl _ | (dsimp only; omega)) ?_)))⟩
theorem tz_16 (w : World) (hT : Tab64 w) :
    Calls Tryd.prog 78 #[.int .u64 16] w fun e w' => e = .returned (.int .i64 4) ∧ Below w.heap.size w w' := by
  go_enter Tryd.func78, Tryd.ntmps78
  go_wp2_with (go_at_call 84; (with_reducible refine (tz64_16 _ hT).mono ?_); rintro e w' ⟨rfl, hb⟩; obtain ⟨hz, hc, hf⟩ := bcell hb; (try simp only [World.size_alloc, World.size_drew, World.heap_drewN, World.size_setCell] at hz); (try have hs0 : w.heap.size < w'.heap.size := by omega); (try have hs1 : w.heap.size + 1 < w'.heap.size := by omega); (try have hs2 : w.heap.size + 2 < w'.heap.size := by omega))
  go_ret
  exact ⟨rfl, (by repeat (first | (with_reducible exact Below.refl _ _) | (with_reducible assumption) | (with_reducible refine bthen (by with_reducible assumption) ?_) | (with_reducible refine balloc _ ?_) | (with_reducible refine bdrewN _ ?_) | (with_reducible refine bdrew ?_) | (with_reducible refine bset (by first | exact Nat.le_refl _ | (dsimp only; omega)) ?_)))⟩

/-- The digit's letter. -/
def hexC (d : Int) : Int := if d < 10 then 48 + d else 87 + d
def hexDigits : ByteArray := ⟨#[48, 49, 50, 51, 52, 53, 54, 55, 56, 57, 97, 98, 99, 100, 101, 102, 103, 104, 105, 106, 107, 108, 109, 110, 111, 112, 113, 114, 115, 116, 117, 118, 119, 120, 121, 122]⟩
/-- The n last digits. -/
def low (u : Nat) : Nat → List Int
  | 0 => []
  | n + 1 => hexC (u / 16 ^ n % 16 : Nat) :: low u n
/-- The digits' row behind so many rounds: m is the place of the last one that stands. -/
def HexAt (u : Nat) (w : World) (m : Nat) (wr : World) : Prop :=
  Below w.heap.size w wr ∧ w.heap.size < wr.heap.size ∧ 50 ≤ m ∧ m ≤ 65 ∧ (m = 65 ∨ 16 ^ (65 - m) ≤ u) ∧ (∀ j, wr.frozen? ⟨w.heap.size, j, none⟩ = false) ∧
    (∀ j, j < 65 → ∃ v, wr.cell? ⟨w.heap.size, j, none⟩ = some (.int .u8 v)) ∧ ∀ k, k < 65 - m → wr.cell? ⟨w.heap.size, m + k, none⟩ = some (.int .u8 ((low u (65 - m)).getD k 0))
theorem hexAt_start (u : Nat) (w w' : World) (hb : Below (w.alloc (.cells Tryd.zeroCells118 118)).heap.size (w.alloc (.cells Tryd.zeroCells118 118)) w') : HexAt u w 65 w' := by
  obtain ⟨hz, hc, hf⟩ := bcell hb
  simp only [World.size_alloc] at hz hc hf
  refine ⟨(by repeat (first | (with_reducible exact Below.refl _ _) | (with_reducible assumption) | (with_reducible refine bthen (by with_reducible assumption) ?_) | (with_reducible refine balloc _ ?_) | (with_reducible refine bdrewN _ ?_) | (with_reducible refine bdrew ?_) | (with_reducible refine bset (by first | exact Nat.le_refl _ | (dsimp only; omega)) ?_))), by omega, by omega, by omega, .inl rfl, fun j => ?_, fun j hj => ⟨0, ?_⟩, fun k hk => by omega⟩
  · rw [hf _ _ (by omega)]; exact World.frozen?_alloc_at _ _ _ _ rfl
  · rw [hc _ _ (by omega), World.cell?_alloc_at _ _ _ _ rfl, show Tryd.zeroCells118 = Array.replicate 65 (.int .u8 0) from by kernel_rfl]; simp [hj]
theorem hexDig (k : Nat) (h : k < 16) (h' : k < hexDigits.size) : ((hexDigits[k]).toNat : Int) = hexC k := by
  obtain rfl | rfl | rfl | rfl | rfl | rfl | rfl | rfl | rfl | rfl | rfl | rfl | rfl | rfl | rfl | rfl : k = 0 ∨ k = 1 ∨ k = 2 ∨ k = 3 ∨ k = 4 ∨ k = 5 ∨ k = 6 ∨ k = 7 ∨ k = 8 ∨ k = 9 ∨ k = 10 ∨ k = 11 ∨ k = 12 ∨ k = 13 ∨ k = 14 ∨ k = 15 := by omega
  all_goals rfl
theorem low_len (u n : Nat) : (low u n).length = n := by induction n <;> simp [low, *]
theorem pow_le_of {u n : Nat} (h : 16 ≤ u / 16 ^ n) : 16 ^ (n + 1) ≤ u := by
  have := Nat.mul_le_of_le_div _ _ _ h
  rw [Nat.pow_succ, Nat.mul_comm]; exact this
theorem exp_le {u n : Nat} (hu : u < 18446744073709551616) (h : 16 ^ n ≤ u) : n ≤ 15 := by
  rcases Nat.lt_or_ge 15 n with hn | hn
  · have : 16 ^ 16 ≤ 16 ^ n := Nat.pow_le_pow_right (by omega) hn
    have e : (16 : Nat) ^ 16 = 18446744073709551616 := by decide
    omega
  · exact hn
theorem hexAt_cells {u : Nat} {w wr : World} {p : Nat} (h : HexAt u w (p + 1) wr) (v : Int) (hv : v = hexC (u / 16 ^ (65 - (p + 1)) % 16 : Nat)) :
    ∀ k, k < 65 - p → (wr.setCell ⟨w.heap.size, p, none⟩ (.int .u8 v)).cell? ⟨w.heap.size, p + k, none⟩ = some (.int .u8 ((low u (65 - p)).getD k 0)) := by
  obtain ⟨hB, hs, h0, h1, _, hf, hex, hlow⟩ := h
  have e : 65 - p = 65 - (p + 1) + 1 := by omega
  intro k hk
  rw [e, low]
  rcases Nat.eq_zero_or_pos k with rfl | hk0
  · obtain ⟨x, hx⟩ := hex p (by omega)
    rw [Nat.add_zero, World.cell?_setCell_same _ _ _ hx, hv]; rfl
  · obtain ⟨k, rfl⟩ : ∃ k', k = k' + 1 := ⟨k - 1, by omega⟩
    rw [World.cell?_setCell_other _ _ _ _ (by simp <;> omega), show p + (k + 1) = p + 1 + k by omega]
    exact hlow k (by omega)
theorem hexAt_step {u : Nat} {w wr : World} {p : Nat} (hu : u < 18446744073709551616) (h : HexAt u w (p + 1) wr) (hq : 16 ≤ u / 16 ^ (65 - (p + 1))) (v : Int) (hv : v = hexC (u / 16 ^ (65 - (p + 1)) % 16 : Nat)) :
    HexAt u w p (wr.setCell ⟨w.heap.size, p, none⟩ (.int .u8 v)) := by
  have hcells := hexAt_cells h v hv
  obtain ⟨hB, hs, h0, h1, _, hf, hex, hlow⟩ := h
  have hp := pow_le_of hq
  have he := exp_le hu hp
  have e : 65 - p = 65 - (p + 1) + 1 := by omega
  rw [← e] at hp he
  refine ⟨hB.setCell (Nat.le_refl _) _, by simpa using hs, by omega, by omega, .inr hp, fun j => by rw [World.frozen?_setCell]; exact hf j, fun j hj => ?_, hcells⟩
  · by_cases hjp : j = p
    · subst hjp
      obtain ⟨x, hx⟩ := hex j hj
      exact ⟨v, by rw [World.cell?_setCell_same _ _ _ hx]⟩
    · obtain ⟨x, hx⟩ := hex j hj
      exact ⟨x, by rw [World.cell?_setCell_other _ _ _ _ (by simp <;> omega)]; exact hx⟩


theorem hexLen_aux (q : Nat) (h : ¬ q < 16) : q / 16 < q := by omega
def hexLen (q : Nat) : Nat := if h : q < 16 then 1 else hexLen (q / 16) + 1
termination_by q
decreasing_by omega
/-- All digits. -/
def hexL (u : Nat) : List Int := low u (hexLen u)
theorem hexLen_split (u : Nat) : ∀ n, (n = 0 ∨ 16 ^ n ≤ u) → hexLen u = n + hexLen (u / 16 ^ n) := by
  intro n
  induction n with
  | zero => intro _; simp
  | succ n ih =>
    intro h
    have h1 : 16 ^ (n + 1) ≤ u := by rcases h with h | h; omega; exact h
    have hp : 0 < 16 ^ n := Nat.pow_pos (by omega)
    have h2 : 16 ^ n ≤ u := by rw [Nat.pow_succ] at h1; omega
    have h3 : 16 ≤ u / 16 ^ n := by rw [Nat.pow_succ, Nat.mul_comm] at h1; exact (Nat.le_div_iff_mul_le hp).2 h1
    have e : u / 16 ^ (n + 1) = u / 16 ^ n / 16 := by rw [Nat.div_div_eq_div_mul, ← Nat.pow_succ]
    rw [ih (.inr h2), e, hexLen, dif_neg (by omega)]
    omega
theorem hex_end {u n : Nat} (h : n = 0 ∨ 16 ^ n ≤ u) (hq : u / 16 ^ n < 16) : hexL u = low u (n + 1) := by
  rw [hexL, hexLen_split u n h, hexLen, dif_pos hq]
theorem hexLen_le : ∀ (n u : Nat), u < 16 ^ (n + 1) → hexLen u ≤ n + 1 := by
  intro n
  induction n with
  | zero => intro u h; rw [hexLen, dif_pos (by simpa using h)]; omega
  | succ n ih =>
    intro u h
    by_cases hu : u < 16
    · rw [hexLen, dif_pos hu]; omega
    · rw [hexLen, dif_neg hu]
      have := ih (u / 16) (by rw [Nat.pow_succ] at h; omega)
      omega
theorem hexL_size {u : Nat} (h : u < 18446744073709551616) : (strOfNums (hexL u)).size ≤ 16 := by
  have h1 := hexLen_le 15 u (by simpa using h)
  have h2 : (strOfNums (hexL u)).size = hexLen u := by simp [strOfNums, ByteArray.size, hexL, low_len]
  omega
set_option maxRecDepth 100000 in
set_option maxHeartbeats 1000000 in
theorem formatBits_16 (u : Nat) (w : World) (hu : u < 18446744073709551616) (hT : Tab64 w) :
    Calls Tryd.prog 62 #[.slice none 0 0, .int .u64 u, .int .i64 16, .bool false, .bool false] w fun e w' => e = .returned (.tuple #[.slice none 0 0, .string (strOfNums (hexL u))]) ∧ Below w.heap.size w w' := by
  have hidx : ∀ (k : Int), 0 ≤ k → k < 16 → ∀ w, (Instr.index 9 (.string hexDigits) (.int .u64 k)).run Tryd.prog w = .ok (.int .u8 (hexC k)) w := by
    intro k h0 h1 w
    obtain rfl | rfl | rfl | rfl | rfl | rfl | rfl | rfl | rfl | rfl | rfl | rfl | rfl | rfl | rfl | rfl : k = 0 ∨ k = 1 ∨ k = 2 ∨ k = 3 ∨ k = 4 ∨ k = 5 ∨ k = 6 ∨ k = 7 ∨ k = 8 ∨ k = 9 ∨ k = 10 ∨ k = 11 ∨ k = 12 ∨ k = 13 ∨ k = 14 ∨ k = 15 := by omega
    all_goals kernel_rfl
  go_enter Tryd.func62, Tryd.ntmps62
  go_wp2_with (first | (go_at_call 77; (with_reducible refine (pow2_16 _).mono ?_); rintro e w' ⟨rfl, hb⟩; obtain ⟨hz, hc, hf⟩ := bcell hb; (try simp only [World.size_alloc, World.size_drew, World.heap_drewN, World.size_setCell] at hz); (try have hs0 : w.heap.size < w'.heap.size := by omega); (try have hs1 : w.heap.size + 1 < w'.heap.size := by omega); (try have hs2 : w.heap.size + 2 < w'.heap.size := by omega)) | (go_at_call 78; (with_reducible refine (tz_16 _ (hT.below (by repeat (first | (with_reducible exact Below.refl _ _) | (with_reducible assumption) | (with_reducible refine bthen (by with_reducible assumption) ?_) | (with_reducible refine balloc _ ?_) | (with_reducible refine bdrewN _ ?_) | (with_reducible refine bdrew ?_) | (with_reducible refine bset (by first | exact Nat.le_refl _ | (dsimp only; omega)) ?_))))).mono ?_); rintro e w' ⟨rfl, hb⟩; obtain ⟨hz, hc, hf⟩ := bcell hb; (try simp only [World.size_alloc, World.size_drew, World.heap_drewN, World.size_setCell] at hz); (try have hs0 : w.heap.size < w'.heap.size := by omega); (try have hs1 : w.heap.size + 1 < w'.heap.size := by omega); (try have hs2 : w.heap.size + 2 < w'.heap.size := by omega)))
  go_loopw [1, 13] (fun q i wr => ∃ m : Nat, HexAt u w m wr ∧ q = .int .u64 ((u / 16 ^ (65 - m) : Nat) : Int) ∧ i = .int .i64 m) (fun q _ _ => (intOf q).toNat)
  case atStart =>
    exact ⟨65, hexAt_start _ _ _ (bthen (by with_reducible assumption) (by with_reducible assumption)), by simp, rfl⟩
  case round =>
    obtain ⟨m, hA, rfl, rfl⟩ := hrel
    obtain ⟨q, hq⟩ : ∃ q, u / 16 ^ (65 - m) = q := ⟨_, rfl⟩
    rw [hq]
    have HQ := Lib.hid hq
    clear hq
    have HA := Lib.hid hA
    obtain ⟨hB, hs, h0, h1, h2, hf, hex, hlow⟩ := hA
    have HB := Lib.hid hB
    obtain ⟨p, rfl⟩ : ∃ p, m = p + 1 := ⟨m - 1, by omega⟩
    obtain ⟨x, hx⟩ := hex p (by omega)
    clear hex hlow hB hT hidx
    have hbm : bits .and .u64 q 15 = ((q % 16 : Nat) : Int) := by
      have hql : q < 18446744073709551616 := by rw [← HQ.out]; exact Nat.lt_of_le_of_lt (Nat.div_le_self _ _) hu
      rw [show (15 : Int) = ((15 : Nat) : Int) from rfl, u64_and_nat q 15 hql (by omega), nat_mask4]
    have hq16 : q % 16 < 16 := Nat.mod_lt _ (by omega)
    by_cases hq : 16 ≤ q
    · go_wp2
      have e2 : u / 16 ^ (65 - p) = q / 16 := by rw [show 65 - p = 65 - (p + 1) + 1 by omega, Nat.pow_succ, ← Nat.div_div_eq_div_mul, HQ.out]
      exact ⟨⟨p, hexAt_step hu HA.out (by rw [HQ.out]; exact hq) _ (by rw [HQ.out]; exact hexDig _ hq16 _), by rw [e2]; simp, rfl⟩, by simp [intOf]; omega⟩
    · have hqq : q < 16 := by omega
      have hb1 : (0 : Int) ≤ q := by omega
      have hb2 : (q : Int) < 36 := by omega
      have hlt : q < hexDigits.size := by show q < 36; omega
      have hcl := hexAt_cells HA.out ((hexDigits[q]'hlt).toNat : Int) (by rw [HQ.out, Nat.mod_eq_of_lt hqq]; exact hexDig q hqq hlt)
      have HE := Lib.hid (hex_end (u := u) (n := 65 - (p + 1)) (h2.imp (fun h => by omega) id) (by rw [HQ.out]; exact hqq))
      have e3 : 65 - (p + 1) + 1 = 65 - p := by omega
      rw [e3] at HE
      have hsl : ∀ w' : World, (Instr.sliceAt 118 (.pointer (some ⟨w.heap.size, 0, none⟩)) (some (.int .i64 p)) none none).run Tryd.prog w' = .ok (.slice (some ⟨w.heap.size, p, none⟩) (65 - p) (65 - p)) w' := by
        intro w'
        have e1 : Tryd.prog.arrayLen 118 = 65 := by kernel_rfl
        have e4 : (sizeOf (Tryd.prog.elem 118)).run Tryd.prog w' = .ok 1 w' := by kernel_rfl
        rw [run_sliceAt_array_l w' 118 ⟨w.heap.size, 0, none⟩ (by kernel_rfl) .i64 p (by omega) (by rw [e1]; omega), e4]
        simp only [Result.andThen, slicedAt, e1, Int.toNat_natCast, Nat.mul_one]
        rw [if_neg (by omega)]
        simp [Addr.add]
        omega
      have hcv := run_convert_bytes_arg (P := Tryd.prog) (wr.setCell ⟨w.heap.size, p, none⟩ (.int .u8 ((hexDigits[q]'hlt).toNat : Int))) 110 5 Tryd.underlying110 Tryd.underlying5 w.heap.size p (65 - p) (65 - p) (low u (65 - p)) (low_len _ _) hcl 9 Tryd.underlying9
      unfold hexDigits at hcv
      clear hcl e3 h2
      go_wp2
      erw [hcv]
      go_wp2
      go_ret2
      have hB := HB.out
      exact ⟨by rw [HE.out]; rfl, (by repeat (first | (with_reducible exact Below.refl _ _) | (with_reducible assumption) | (with_reducible refine bthen (by with_reducible assumption) ?_) | (with_reducible refine balloc _ ?_) | (with_reducible refine bdrewN _ ?_) | (with_reducible refine bdrew ?_) | (with_reducible refine bset (by first | exact Nat.le_refl _ | (dsimp only; omega)) ?_)))⟩

theorem formatUint_16 (u : Nat) (w : World) (hu : u < 18446744073709551616) (hT : Tab64 w) :
    Calls Tryd.prog 48 #[.int .u64 u, .int .i64 16] w fun e w' => e = .returned (.string (strOfNums (hexL u))) ∧ Below w.heap.size w w' := by
  go_enter Tryd.func48, Tryd.ntmps48
  go_wp2_with (go_at_call 62; (with_reducible refine (formatBits_16 u _ hu hT).mono ?_); rintro e w' ⟨rfl, hb⟩; obtain ⟨hz, hc, hf⟩ := bcell hb; (try simp only [World.size_alloc, World.size_drew, World.heap_drewN, World.size_setCell] at hz); (try have hs0 : w.heap.size < w'.heap.size := by omega); (try have hs1 : w.heap.size + 1 < w'.heap.size := by omega); (try have hs2 : w.heap.size + 2 < w'.heap.size := by omega))
  go_ret
  exact ⟨rfl, (by repeat (first | (with_reducible exact Below.refl _ _) | (with_reducible assumption) | (with_reducible refine bthen (by with_reducible assumption) ?_) | (with_reducible refine balloc _ ?_) | (with_reducible refine bdrewN _ ?_) | (with_reducible refine bdrew ?_) | (with_reducible refine bset (by first | exact Nat.le_refl _ | (dsimp only; omega)) ?_)))⟩
theorem FormatUint_16 (u : Nat) (w : World) (hu : u < 18446744073709551616) (hT : Tab64 w) :
    Calls Tryd.prog 28 #[.int .u64 u, .int .i64 16] w fun e w' => e = .returned (.string (strOfNums (hexL u))) ∧ Below w.heap.size w w' := by
  go_enter Tryd.func28, Tryd.ntmps28
  go_wp2_with (go_at_call 48; (with_reducible refine (formatUint_16 u _ hu hT).mono ?_); rintro e w' ⟨rfl, hb⟩; obtain ⟨hz, hc, hf⟩ := bcell hb; (try simp only [World.size_alloc, World.size_drew, World.heap_drewN, World.size_setCell] at hz); (try have hs0 : w.heap.size < w'.heap.size := by omega); (try have hs1 : w.heap.size + 1 < w'.heap.size := by omega); (try have hs2 : w.heap.size + 2 < w'.heap.size := by omega))
  go_ret
  exact ⟨rfl, (by repeat (first | (with_reducible exact Below.refl _ _) | (with_reducible assumption) | (with_reducible refine bthen (by with_reducible assumption) ?_) | (with_reducible refine balloc _ ?_) | (with_reducible refine bdrewN _ ?_) | (with_reducible refine bdrew ?_) | (with_reducible refine bset (by first | exact Nat.le_refl _ | (dsimp only; omega)) ?_)))⟩
/-- Itoa at one digit. -/
theorem itoa_1 (l : Int) (w : World) (h0 : 0 ≤ l) (h1 : l ≤ 9) :
    Calls Tryd.prog 27 #[.int .i64 l] w fun e w' => e = .returned (.string ⟨#[UInt8.ofNat (48 + l.toNat)]⟩) ∧ Below w.heap.size w w' := by
  obtain rfl | rfl | rfl | rfl | rfl | rfl | rfl | rfl | rfl | rfl : l = 0 ∨ l = 1 ∨ l = 2 ∨ l = 3 ∨ l = 4 ∨ l = 5 ∨ l = 6 ∨ l = 7 ∨ l = 8 ∨ l = 9 := by omega
  all_goals
    go_enter Tryd.func27, Tryd.ntmps27
    go_wp2
    go_ret
    exact ⟨rfl, (by repeat (first | (with_reducible exact Below.refl _ _) | (with_reducible assumption) | (with_reducible refine bthen (by with_reducible assumption) ?_) | (with_reducible refine balloc _ ?_) | (with_reducible refine bdrewN _ ?_) | (with_reducible refine bdrew ?_) | (with_reducible refine bset (by first | exact Nat.le_refl _ | (dsimp only; omega)) ?_)))⟩
end Go.Proofs.YtailocbophkmmaaDoor
