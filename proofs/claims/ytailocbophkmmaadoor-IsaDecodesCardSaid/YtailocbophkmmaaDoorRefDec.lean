/-
  Package tenementref07: Decode.
-/
import Derived.Test.YtailocbophkmmaaDoorRefBits
import Derived.Test.YtailocbophkmmaaDoorIsaDec3
import Derived.Test.YtailocbophkmmaaDoorRefEnc2
import Derived.Sort.Row
namespace Go.Proofs.YtailocbophkmmaaDoor
open Go.RowKit FP

/-- Operation k has the word, with the fields that are read. -/
def OpAcc (k : Int) (x : Int) : Prop := Acc x k (dOf k x) (nOf k x) (mOf k x) (immOf k x)
theorem opAcc_none {x : Int} (h : ∀ k : Int, 0 ≤ k → k < 18 → ¬ OpAcc k x) : ∀ op d n m imm, ¬ Acc x op d n m imm := by
  intro op d n m imm ha
  obtain ⟨-, -, -, hd, hn, hm, hi⟩ := acc_read ha
  have h0 := (okB_cases ha.1).1
  have h18 := ha.2.1
  subst hd hn hm hi
  exact h op h0.1 (by omega) ha
theorem low5 (y : Int) (h0 : 0 ≤ y) (h1 : y < 4294967296) : bits .and .u32 y 31 = y % 32 := by
  have := and_low' y 5 32 (by decide) (by omega)
  rw [Int.emod_eq_of_lt h0 h1] at this
  exact this
theorem wrap8 (y : Int) (h0 : 0 ≤ y) (h1 : y < 128) : IntKind.i8.wrap y = y := by
  simp [IntKind.wrap, IntKind.bits, IntKind.signed]; omega
/-- What Encode answers of the candidate. -/
theorem cand_enc (k x d n m imm : Int) (hd : dOf k x = d) (hn : nOf k x = n) (hm : mOf k x = m) (hi : immOf k x = imm) (hk : 0 ≤ k) (hk8 : k < 18) : (Acc x k d n m imm ∧ encV k d n m imm = .tuple #[.int .u32 x, .int .i64 0]) ∨ (¬ OpAcc k x ∧ ∃ u e : Int, encV k d n m imm = .tuple #[.int .u32 u, .int .i64 e] ∧ ((e == 0) = false ∨ e = 0 ∧ (u == x) = false)) := by
  subst hd hn hm hi
  by_cases h : okB k (dOf k x) (nOf k x) (mOf k x) (immOf k x) = true
  · by_cases he : encI k (dOf k x) (nOf k x) (mOf k x) (immOf k x) = x
    · exact .inl ⟨⟨h, by omega, he⟩, by rw [encV_t h (by omega), he]⟩
    · exact .inr ⟨fun hA => he hA.2.2, _, _, encV_t h (by omega), .inr ⟨rfl, by simpa using he⟩⟩
  · exact .inr ⟨fun hA => h hA.1, _, _, encV_f (.inl (by simpa using h)), .inl (by decide)⟩
theorem next_none {k x : Int} (h : ∀ j : Int, 0 ≤ j → j < k → ¬ OpAcc j x) (hk : ¬ OpAcc k x) : ∀ j : Int, 0 ≤ j → j < k + 1 → ¬ OpAcc j x := fun j h0 h1 => by
  by_cases e : j = k
  · subst e; exact hk
  · exact h j h0 (by omega)
theorem set_set (w : World) (blk off : Nat) (v v' : Value) : (w.setCell ⟨blk, off, none⟩ v).setCell ⟨blk, off, none⟩ v' = w.setCell ⟨blk, off, none⟩ v' := by
  rw [Go.Sort.setCell_eq, Go.Sort.setCell_eq, Go.Sort.mapBlock_mapBlock, Go.Sort.setCell_eq]
  congr 1
  funext c
  simp
theorem get20 (x : Int) : getI x 20 5 = x / 32 % 65536 := by simp [getI]
theorem get21 (x : Int) : getI x 21 10 = x / 1024 % 4096 := by simp [getI]
theorem get23 (x : Int) : getI x 23 5 = x / 32 % 524288 := by simp [getI]
theorem sgn_mod (y : Int) : sgnI (y % 524288) 262144 = sgnI y 262144 := by unfold sgnI; simp
set_option maxRecDepth 100000 in
set_option maxHeartbeats 20000000 in
theorem refdec_any (x : Int) (w : World) (h0 : 0 ≤ x) (h1 : x < 4294967296) :
    Calls Tryd.prog 13 #[.int .u32 x] w fun e w' => ∃ op d n m imm, e = .returned (.agg #[.int .i8 op, .int .i8 d, .int .i8 n, .int .i8 m, .int .i64 imm]) ∧ DecIs x op d n m imm ∧ Below w.heap.size w w' := by
  have x5a : 0 ≤ x / 32 ∧ x / 32 < 4294967296 := by omega
  have x16a : 0 ≤ x / 65536 ∧ x / 65536 < 4294967296 := by omega
  obtain ⟨dd, hdd⟩ : ∃ dd, fldI x 0 = dd := ⟨_, rfl⟩
  obtain ⟨nn, hnn⟩ : ∃ nn, fldI x 5 = nn := ⟨_, rfl⟩
  obtain ⟨mm, hmm⟩ : ∃ mm, fldI x 16 = mm := ⟨_, rfl⟩
  have bd := fldI_bd x 0; rw [hdd] at bd
  have bn := fldI_bd x 5; rw [hnn] at bn
  have bm := fldI_bd x 16; rw [hmm] at bm
  have hb0 : bits .and .u32 x 31 = dd := by rw [low5 x h0 h1, ← hdd, fld0]
  have hb5 : bits .and .u32 (x / 32) 31 = nn := by rw [low5 _ x5a.1 x5a.2, ← hnn, fld5]
  have hb16 : bits .and .u32 (x / 65536) 31 = mm := by rw [low5 _ x16a.1 x16a.2, ← hmm, fld16]
  have w0 := wrap8 dd bd.1 (by omega)
  have w5 := wrap8 nn bn.1 (by omega)
  have w16 := wrap8 mm bm.1 (by omega)
  have HDD := Lib.hid hdd
  have HNN := Lib.hid hnn
  have HMM := Lib.hid hmm
  clear hdd hnn hmm
  obtain ⟨ii, hii⟩ : ∃ ii, x / 32 % 65536 = ii := ⟨_, rfl⟩
  obtain ⟨i7, hi7⟩ : ∃ i7, x / 1024 % 4096 = i7 := ⟨_, rfl⟩
  obtain ⟨s25, hs25⟩ : ∃ s, sgnI x 33554432 = s := ⟨_, rfl⟩
  obtain ⟨s18, hs18⟩ : ∃ s, sgnI (x / 32) 262144 = s := ⟨_, rfl⟩
  obtain ⟨g23, hg23⟩ : ∃ g, x / 32 % 524288 = g := ⟨_, rfl⟩
  have bi : 0 ≤ ii ∧ ii < 65536 := by omega
  have b7 : 0 ≤ i7 ∧ i7 < 4096 := by omega
  have b23a : 0 ≤ g23 := by omega
  have b23 : g23 < 524288 := by omega
  have HII : Hid (getI x 20 5 = ii) := Lib.hid ((get20 x).trans hii)
  have HI7 : Hid (getI x 21 10 = i7) := Lib.hid ((get21 x).trans hi7)
  have HG23 : Hid (getI x 23 5 = g23) := Lib.hid ((get23 x).trans hg23)
  have HS25 : Hid (sgnI x (2 ^ (25 : Int).toNat) = s25) := Lib.hid hs25
  have HS18 : Hid (sgnI g23 (2 ^ (18 : Int).toNat) = s18) := Lib.hid (by rw [← hg23]; exact (sgn_mod (x / 32)).trans hs18)
  have HMI : Hid (immOf 1 x = ii) := Lib.hid hii
  have HMI7 : Hid (x / 1024 % 4096 = i7) := Lib.hid hi7
  have HMS25 : Hid (immOf 14 x = s25) := Lib.hid hs25
  have HMS15 : Hid (immOf 15 x = s18) := Lib.hid hs18
  have HMS16 : Hid (immOf 16 x = s18) := Lib.hid hs18
  clear hii hi7 hs25 hs18 hg23
  go_enter Tryd.func13, Tryd.ntmps13
  go_wp2
  obtain ⟨w1, hw1⟩ : ∃ w1, w.alloc (.cells #[.int .i8 0, .int .i8 0, .int .i8 0, .int .i8 0, .int .i64 0] 36) = w1 := ⟨_, rfl⟩
  have hB1 : Below w.heap.size w w1 := by rw [← hw1]; exact (by repeat (first | (with_reducible exact Below.refl _ _) | (with_reducible assumption) | (with_reducible refine bthen (by with_reducible assumption) ?_) | (with_reducible refine balloc _ ?_) | (with_reducible refine bdrewN _ ?_) | (with_reducible refine bdrew ?_) | (with_reducible refine bset (by first | exact Nat.le_refl _ | (dsimp only; omega)) ?_)))
  have hs1 : w1.heap.size = w.heap.size + 1 := by rw [← hw1]; simp
  have hr1 : w1.heap[w.heap.size]? = some (.cells #[.int .i8 0, .int .i8 0, .int .i8 0, .int .i8 0, .int .i64 0] 36 (0, 0)) := by rw [← hw1]; exact blk_new _ _ rfl
  try rw [hw1]
  have HB1 := Lib.hid hB1
  have HR1 := Lib.hid hr1
  clear hB1 hr1 hw1
  go_loopw [7] (fun i wr => ∃ k : Int, 0 ≤ k ∧ k ≤ 18 ∧ i = .int .i8 k ∧ Below w1.heap.size w1 wr ∧ ∀ j : Int, 0 ≤ j → j < k → ¬ OpAcc j x) (fun i _ => (18 - intOf i).toNat)
  case atStart => exact ⟨0, by omega, by omega, rfl, Below.refl _ _, fun j a b => by omega⟩
  case round =>
    obtain ⟨k, k0, k1, rfl, hB, hno⟩ := hrel
    have hsr := hB.size
    have HB := Lib.hid hB
    have HNO := Lib.hid hno
    obtain ⟨kr1, kr2⟩ := blkc (blk_below hB (by omega) HR1.out)
    have hrl : w.heap.size < wr.heap.size := by omega
    have hrl1 : w.heap.size < wr.heap.size + 1 := by omega
    clear hB hno
    by_cases hk : k < 18
    · have HBx : Hid (Below w.heap.size w wr) := Lib.hid (HB1.out.trans (HB.out.mono (by omega)))
      clear k1
      obtain rfl | rfl | rfl | rfl | rfl | rfl | rfl | rfl | rfl | rfl | rfl | rfl | rfl | rfl | rfl | rfl | rfl | rfl : k = 0 ∨ k = 1 ∨ k = 2 ∨ k = 3 ∨ k = 4 ∨ k = 5 ∨ k = 6 ∨ k = 7 ∨ k = 8 ∨ k = 9 ∨ k = 10 ∨ k = 11 ∨ k = 12 ∨ k = 13 ∨ k = 14 ∨ k = 15 ∨ k = 16 ∨ k = 17 := by omega
      · rcases cand_enc 0 x 0 0 0 (0) rfl rfl rfl rfl (by omega) (by omega) with ⟨hA, hE⟩ | ⟨hA, u, e, hE, hue⟩
        · have HA := Lib.hid hA
          have HE := Lib.hid hE
          clear hA hE
          go_wp2_with (first | ((go_at_call 16; (with_reducible refine (encodeR_any 0 0 0 0 (0) _).mono ?_); rintro e w' ⟨rfl, hb⟩; rw [HE.out]; obtain ⟨hz, hc, hf⟩ := bcell hb; (try simp only [World.size_alloc] at hz); (try simp only [World.size_setCell] at hz); (try simp only [World.size_drew] at hz); (try simp only [World.heap_drewN] at hz); (try have hs0 : w.heap.size < w'.heap.size := by omega); (try have hs1 : w.heap.size + 1 < w'.heap.size := by omega); (try have hs2 : w.heap.size + 2 < w'.heap.size := by omega)); (try have hsx : wr.heap.size < w'.heap.size := (by omega)); (try have hsw : w.heap.size < w'.heap.size := (by omega))))
          have hBx := HBx.out
          exact bodyPost_ret (v := .agg #[.int .i8 0, .int .i8 0, .int .i8 0, .int .i8 0, .int .i64 (0)]) (by simp [results, Tryd.results13, go_sem, *]) rfl ⟨0, 0, 0, 0, (0), rfl, .inl HA.out, (by repeat (first | (with_reducible exact Below.refl _ _) | (with_reducible assumption) | (with_reducible refine bthen (by with_reducible assumption) ?_) | (with_reducible refine balloc _ ?_) | (with_reducible refine bdrewN _ ?_) | (with_reducible refine bdrew ?_) | (with_reducible refine bset (by first | exact Nat.le_refl _ | (dsimp only; omega)) ?_)))⟩
        · have HE := Lib.hid hE
          have HN := Lib.hid hA
          clear hA hE
          rcases hue with hue | ⟨rfl, hue⟩
          all_goals
            go_wp2_with (first | ((go_at_call 16; (with_reducible refine (encodeR_any 0 0 0 0 (0) _).mono ?_); rintro e w' ⟨rfl, hb⟩; rw [HE.out]; obtain ⟨hz, hc, hf⟩ := bcell hb; (try simp only [World.size_alloc] at hz); (try simp only [World.size_setCell] at hz); (try simp only [World.size_drew] at hz); (try simp only [World.heap_drewN] at hz); (try have hs0 : w.heap.size < w'.heap.size := by omega); (try have hs1 : w.heap.size + 1 < w'.heap.size := by omega); (try have hs2 : w.heap.size + 2 < w'.heap.size := by omega)); (try have hsx : wr.heap.size < w'.heap.size := (by omega)); (try have hsw : w.heap.size < w'.heap.size := (by omega))))
            have hB := HB.out
            exact ⟨⟨1, by omega, by omega, rfl, (by repeat (first | (with_reducible exact Below.refl _ _) | (with_reducible assumption) | (with_reducible refine bthen (by with_reducible assumption) ?_) | (with_reducible refine balloc _ ?_) | (with_reducible refine bdrewN _ ?_) | (with_reducible refine bdrew ?_) | (with_reducible refine bset (by first | exact Nat.le_refl _ | (dsimp only; omega)) ?_))), next_none HNO.out HN.out⟩, by simp [intOf]⟩
      · rcases cand_enc 1 x dd 0 0 (ii) HDD.out rfl rfl HMI.out (by omega) (by omega) with ⟨hA, hE⟩ | ⟨hA, u, e, hE, hue⟩
        · have HA := Lib.hid hA
          have HE := Lib.hid hE
          clear hA hE
          go_wp2_with (first | ((go_at_call 31; (with_reducible refine (refget_any x 20 5 _ h0 (by omega) (by omega) (by omega) (by omega)).mono ?_); rintro e w' ⟨rfl, hb⟩; rw [HII.out]; obtain ⟨hz, hc, hf⟩ := bcell hb; (try simp only [World.size_alloc] at hz); (try simp only [World.size_setCell] at hz); (try simp only [World.size_drew] at hz); (try simp only [World.heap_drewN] at hz); (try have hs0 : w.heap.size < w'.heap.size := by omega); (try have hs1 : w.heap.size + 1 < w'.heap.size := by omega); (try have hs2 : w.heap.size + 2 < w'.heap.size := by omega)); (try have hsx : wr.heap.size < w'.heap.size := (by omega)); (try have hsw : w.heap.size < w'.heap.size := (by omega))) | ((go_at_call 16; (with_reducible refine (encodeR_any 1 dd 0 0 (ii) _).mono ?_); rintro e w' ⟨rfl, hb⟩; rw [HE.out]; obtain ⟨hz, hc, hf⟩ := bcell hb; (try simp only [World.size_alloc] at hz); (try simp only [World.size_setCell] at hz); (try simp only [World.size_drew] at hz); (try simp only [World.heap_drewN] at hz); (try have hs0 : w.heap.size < w'.heap.size := by omega); (try have hs1 : w.heap.size + 1 < w'.heap.size := by omega); (try have hs2 : w.heap.size + 2 < w'.heap.size := by omega)); (try have hsx : wr.heap.size < w'.heap.size := (by omega)); (try have hsw : w.heap.size < w'.heap.size := (by omega))))
          have hBx := HBx.out
          exact bodyPost_ret (v := .agg #[.int .i8 1, .int .i8 dd, .int .i8 0, .int .i8 0, .int .i64 (ii)]) (by simp [results, Tryd.results13, go_sem, *]) rfl ⟨1, dd, 0, 0, (ii), rfl, .inl HA.out, (by repeat (first | (with_reducible exact Below.refl _ _) | (with_reducible assumption) | (with_reducible refine bthen (by with_reducible assumption) ?_) | (with_reducible refine balloc _ ?_) | (with_reducible refine bdrewN _ ?_) | (with_reducible refine bdrew ?_) | (with_reducible refine bset (by first | exact Nat.le_refl _ | (dsimp only; omega)) ?_)))⟩
        · have HE := Lib.hid hE
          have HN := Lib.hid hA
          clear hA hE
          rcases hue with hue | ⟨rfl, hue⟩
          all_goals
            go_wp2_with (first | ((go_at_call 31; (with_reducible refine (refget_any x 20 5 _ h0 (by omega) (by omega) (by omega) (by omega)).mono ?_); rintro e w' ⟨rfl, hb⟩; rw [HII.out]; obtain ⟨hz, hc, hf⟩ := bcell hb; (try simp only [World.size_alloc] at hz); (try simp only [World.size_setCell] at hz); (try simp only [World.size_drew] at hz); (try simp only [World.heap_drewN] at hz); (try have hs0 : w.heap.size < w'.heap.size := by omega); (try have hs1 : w.heap.size + 1 < w'.heap.size := by omega); (try have hs2 : w.heap.size + 2 < w'.heap.size := by omega)); (try have hsx : wr.heap.size < w'.heap.size := (by omega)); (try have hsw : w.heap.size < w'.heap.size := (by omega))) | ((go_at_call 16; (with_reducible refine (encodeR_any 1 dd 0 0 (ii) _).mono ?_); rintro e w' ⟨rfl, hb⟩; rw [HE.out]; obtain ⟨hz, hc, hf⟩ := bcell hb; (try simp only [World.size_alloc] at hz); (try simp only [World.size_setCell] at hz); (try simp only [World.size_drew] at hz); (try simp only [World.heap_drewN] at hz); (try have hs0 : w.heap.size < w'.heap.size := by omega); (try have hs1 : w.heap.size + 1 < w'.heap.size := by omega); (try have hs2 : w.heap.size + 2 < w'.heap.size := by omega)); (try have hsx : wr.heap.size < w'.heap.size := (by omega)); (try have hsw : w.heap.size < w'.heap.size := (by omega))))
            have hB := HB.out
            exact ⟨⟨2, by omega, by omega, rfl, (by repeat (first | (with_reducible exact Below.refl _ _) | (with_reducible assumption) | (with_reducible refine bthen (by with_reducible assumption) ?_) | (with_reducible refine balloc _ ?_) | (with_reducible refine bdrewN _ ?_) | (with_reducible refine bdrew ?_) | (with_reducible refine bset (by first | exact Nat.le_refl _ | (dsimp only; omega)) ?_))), next_none HNO.out HN.out⟩, by simp [intOf]⟩
      · rcases cand_enc 2 x dd nn mm (0) HDD.out HNN.out HMM.out rfl (by omega) (by omega) with ⟨hA, hE⟩ | ⟨hA, u, e, hE, hue⟩
        · have HA := Lib.hid hA
          have HE := Lib.hid hE
          clear hA hE
          go_wp2_with (first | ((go_at_call 16; (with_reducible refine (encodeR_any 2 dd nn mm (0) _).mono ?_); rintro e w' ⟨rfl, hb⟩; rw [HE.out]; obtain ⟨hz, hc, hf⟩ := bcell hb; (try simp only [World.size_alloc] at hz); (try simp only [World.size_setCell] at hz); (try simp only [World.size_drew] at hz); (try simp only [World.heap_drewN] at hz); (try have hs0 : w.heap.size < w'.heap.size := by omega); (try have hs1 : w.heap.size + 1 < w'.heap.size := by omega); (try have hs2 : w.heap.size + 2 < w'.heap.size := by omega)); (try have hsx : wr.heap.size < w'.heap.size := (by omega)); (try have hsw : w.heap.size < w'.heap.size := (by omega))))
          have hBx := HBx.out
          exact bodyPost_ret (v := .agg #[.int .i8 2, .int .i8 dd, .int .i8 nn, .int .i8 mm, .int .i64 (0)]) (by simp [results, Tryd.results13, go_sem, *]) rfl ⟨2, dd, nn, mm, (0), rfl, .inl HA.out, (by repeat (first | (with_reducible exact Below.refl _ _) | (with_reducible assumption) | (with_reducible refine bthen (by with_reducible assumption) ?_) | (with_reducible refine balloc _ ?_) | (with_reducible refine bdrewN _ ?_) | (with_reducible refine bdrew ?_) | (with_reducible refine bset (by first | exact Nat.le_refl _ | (dsimp only; omega)) ?_)))⟩
        · have HE := Lib.hid hE
          have HN := Lib.hid hA
          clear hA hE
          rcases hue with hue | ⟨rfl, hue⟩
          all_goals
            go_wp2_with (first | ((go_at_call 16; (with_reducible refine (encodeR_any 2 dd nn mm (0) _).mono ?_); rintro e w' ⟨rfl, hb⟩; rw [HE.out]; obtain ⟨hz, hc, hf⟩ := bcell hb; (try simp only [World.size_alloc] at hz); (try simp only [World.size_setCell] at hz); (try simp only [World.size_drew] at hz); (try simp only [World.heap_drewN] at hz); (try have hs0 : w.heap.size < w'.heap.size := by omega); (try have hs1 : w.heap.size + 1 < w'.heap.size := by omega); (try have hs2 : w.heap.size + 2 < w'.heap.size := by omega)); (try have hsx : wr.heap.size < w'.heap.size := (by omega)); (try have hsw : w.heap.size < w'.heap.size := (by omega))))
            have hB := HB.out
            exact ⟨⟨3, by omega, by omega, rfl, (by repeat (first | (with_reducible exact Below.refl _ _) | (with_reducible assumption) | (with_reducible refine bthen (by with_reducible assumption) ?_) | (with_reducible refine balloc _ ?_) | (with_reducible refine bdrewN _ ?_) | (with_reducible refine bdrew ?_) | (with_reducible refine bset (by first | exact Nat.le_refl _ | (dsimp only; omega)) ?_))), next_none HNO.out HN.out⟩, by simp [intOf]⟩
      · rcases cand_enc 3 x dd nn mm (0) HDD.out HNN.out HMM.out rfl (by omega) (by omega) with ⟨hA, hE⟩ | ⟨hA, u, e, hE, hue⟩
        · have HA := Lib.hid hA
          have HE := Lib.hid hE
          clear hA hE
          go_wp2_with (first | ((go_at_call 16; (with_reducible refine (encodeR_any 3 dd nn mm (0) _).mono ?_); rintro e w' ⟨rfl, hb⟩; rw [HE.out]; obtain ⟨hz, hc, hf⟩ := bcell hb; (try simp only [World.size_alloc] at hz); (try simp only [World.size_setCell] at hz); (try simp only [World.size_drew] at hz); (try simp only [World.heap_drewN] at hz); (try have hs0 : w.heap.size < w'.heap.size := by omega); (try have hs1 : w.heap.size + 1 < w'.heap.size := by omega); (try have hs2 : w.heap.size + 2 < w'.heap.size := by omega)); (try have hsx : wr.heap.size < w'.heap.size := (by omega)); (try have hsw : w.heap.size < w'.heap.size := (by omega))))
          have hBx := HBx.out
          exact bodyPost_ret (v := .agg #[.int .i8 3, .int .i8 dd, .int .i8 nn, .int .i8 mm, .int .i64 (0)]) (by simp [results, Tryd.results13, go_sem, *]) rfl ⟨3, dd, nn, mm, (0), rfl, .inl HA.out, (by repeat (first | (with_reducible exact Below.refl _ _) | (with_reducible assumption) | (with_reducible refine bthen (by with_reducible assumption) ?_) | (with_reducible refine balloc _ ?_) | (with_reducible refine bdrewN _ ?_) | (with_reducible refine bdrew ?_) | (with_reducible refine bset (by first | exact Nat.le_refl _ | (dsimp only; omega)) ?_)))⟩
        · have HE := Lib.hid hE
          have HN := Lib.hid hA
          clear hA hE
          rcases hue with hue | ⟨rfl, hue⟩
          all_goals
            go_wp2_with (first | ((go_at_call 16; (with_reducible refine (encodeR_any 3 dd nn mm (0) _).mono ?_); rintro e w' ⟨rfl, hb⟩; rw [HE.out]; obtain ⟨hz, hc, hf⟩ := bcell hb; (try simp only [World.size_alloc] at hz); (try simp only [World.size_setCell] at hz); (try simp only [World.size_drew] at hz); (try simp only [World.heap_drewN] at hz); (try have hs0 : w.heap.size < w'.heap.size := by omega); (try have hs1 : w.heap.size + 1 < w'.heap.size := by omega); (try have hs2 : w.heap.size + 2 < w'.heap.size := by omega)); (try have hsx : wr.heap.size < w'.heap.size := (by omega)); (try have hsw : w.heap.size < w'.heap.size := (by omega))))
            have hB := HB.out
            exact ⟨⟨4, by omega, by omega, rfl, (by repeat (first | (with_reducible exact Below.refl _ _) | (with_reducible assumption) | (with_reducible refine bthen (by with_reducible assumption) ?_) | (with_reducible refine balloc _ ?_) | (with_reducible refine bdrewN _ ?_) | (with_reducible refine bdrew ?_) | (with_reducible refine bset (by first | exact Nat.le_refl _ | (dsimp only; omega)) ?_))), next_none HNO.out HN.out⟩, by simp [intOf]⟩
      · rcases cand_enc 4 x dd nn mm (0) HDD.out HNN.out HMM.out rfl (by omega) (by omega) with ⟨hA, hE⟩ | ⟨hA, u, e, hE, hue⟩
        · have HA := Lib.hid hA
          have HE := Lib.hid hE
          clear hA hE
          go_wp2_with (first | ((go_at_call 16; (with_reducible refine (encodeR_any 4 dd nn mm (0) _).mono ?_); rintro e w' ⟨rfl, hb⟩; rw [HE.out]; obtain ⟨hz, hc, hf⟩ := bcell hb; (try simp only [World.size_alloc] at hz); (try simp only [World.size_setCell] at hz); (try simp only [World.size_drew] at hz); (try simp only [World.heap_drewN] at hz); (try have hs0 : w.heap.size < w'.heap.size := by omega); (try have hs1 : w.heap.size + 1 < w'.heap.size := by omega); (try have hs2 : w.heap.size + 2 < w'.heap.size := by omega)); (try have hsx : wr.heap.size < w'.heap.size := (by omega)); (try have hsw : w.heap.size < w'.heap.size := (by omega))))
          have hBx := HBx.out
          exact bodyPost_ret (v := .agg #[.int .i8 4, .int .i8 dd, .int .i8 nn, .int .i8 mm, .int .i64 (0)]) (by simp [results, Tryd.results13, go_sem, *]) rfl ⟨4, dd, nn, mm, (0), rfl, .inl HA.out, (by repeat (first | (with_reducible exact Below.refl _ _) | (with_reducible assumption) | (with_reducible refine bthen (by with_reducible assumption) ?_) | (with_reducible refine balloc _ ?_) | (with_reducible refine bdrewN _ ?_) | (with_reducible refine bdrew ?_) | (with_reducible refine bset (by first | exact Nat.le_refl _ | (dsimp only; omega)) ?_)))⟩
        · have HE := Lib.hid hE
          have HN := Lib.hid hA
          clear hA hE
          rcases hue with hue | ⟨rfl, hue⟩
          all_goals
            go_wp2_with (first | ((go_at_call 16; (with_reducible refine (encodeR_any 4 dd nn mm (0) _).mono ?_); rintro e w' ⟨rfl, hb⟩; rw [HE.out]; obtain ⟨hz, hc, hf⟩ := bcell hb; (try simp only [World.size_alloc] at hz); (try simp only [World.size_setCell] at hz); (try simp only [World.size_drew] at hz); (try simp only [World.heap_drewN] at hz); (try have hs0 : w.heap.size < w'.heap.size := by omega); (try have hs1 : w.heap.size + 1 < w'.heap.size := by omega); (try have hs2 : w.heap.size + 2 < w'.heap.size := by omega)); (try have hsx : wr.heap.size < w'.heap.size := (by omega)); (try have hsw : w.heap.size < w'.heap.size := (by omega))))
            have hB := HB.out
            exact ⟨⟨5, by omega, by omega, rfl, (by repeat (first | (with_reducible exact Below.refl _ _) | (with_reducible assumption) | (with_reducible refine bthen (by with_reducible assumption) ?_) | (with_reducible refine balloc _ ?_) | (with_reducible refine bdrewN _ ?_) | (with_reducible refine bdrew ?_) | (with_reducible refine bset (by first | exact Nat.le_refl _ | (dsimp only; omega)) ?_))), next_none HNO.out HN.out⟩, by simp [intOf]⟩
      · rcases cand_enc 5 x dd nn mm (0) HDD.out HNN.out HMM.out rfl (by omega) (by omega) with ⟨hA, hE⟩ | ⟨hA, u, e, hE, hue⟩
        · have HA := Lib.hid hA
          have HE := Lib.hid hE
          clear hA hE
          go_wp2_with (first | ((go_at_call 16; (with_reducible refine (encodeR_any 5 dd nn mm (0) _).mono ?_); rintro e w' ⟨rfl, hb⟩; rw [HE.out]; obtain ⟨hz, hc, hf⟩ := bcell hb; (try simp only [World.size_alloc] at hz); (try simp only [World.size_setCell] at hz); (try simp only [World.size_drew] at hz); (try simp only [World.heap_drewN] at hz); (try have hs0 : w.heap.size < w'.heap.size := by omega); (try have hs1 : w.heap.size + 1 < w'.heap.size := by omega); (try have hs2 : w.heap.size + 2 < w'.heap.size := by omega)); (try have hsx : wr.heap.size < w'.heap.size := (by omega)); (try have hsw : w.heap.size < w'.heap.size := (by omega))))
          have hBx := HBx.out
          exact bodyPost_ret (v := .agg #[.int .i8 5, .int .i8 dd, .int .i8 nn, .int .i8 mm, .int .i64 (0)]) (by simp [results, Tryd.results13, go_sem, *]) rfl ⟨5, dd, nn, mm, (0), rfl, .inl HA.out, (by repeat (first | (with_reducible exact Below.refl _ _) | (with_reducible assumption) | (with_reducible refine bthen (by with_reducible assumption) ?_) | (with_reducible refine balloc _ ?_) | (with_reducible refine bdrewN _ ?_) | (with_reducible refine bdrew ?_) | (with_reducible refine bset (by first | exact Nat.le_refl _ | (dsimp only; omega)) ?_)))⟩
        · have HE := Lib.hid hE
          have HN := Lib.hid hA
          clear hA hE
          rcases hue with hue | ⟨rfl, hue⟩
          all_goals
            go_wp2_with (first | ((go_at_call 16; (with_reducible refine (encodeR_any 5 dd nn mm (0) _).mono ?_); rintro e w' ⟨rfl, hb⟩; rw [HE.out]; obtain ⟨hz, hc, hf⟩ := bcell hb; (try simp only [World.size_alloc] at hz); (try simp only [World.size_setCell] at hz); (try simp only [World.size_drew] at hz); (try simp only [World.heap_drewN] at hz); (try have hs0 : w.heap.size < w'.heap.size := by omega); (try have hs1 : w.heap.size + 1 < w'.heap.size := by omega); (try have hs2 : w.heap.size + 2 < w'.heap.size := by omega)); (try have hsx : wr.heap.size < w'.heap.size := (by omega)); (try have hsw : w.heap.size < w'.heap.size := (by omega))))
            have hB := HB.out
            exact ⟨⟨6, by omega, by omega, rfl, (by repeat (first | (with_reducible exact Below.refl _ _) | (with_reducible assumption) | (with_reducible refine bthen (by with_reducible assumption) ?_) | (with_reducible refine balloc _ ?_) | (with_reducible refine bdrewN _ ?_) | (with_reducible refine bdrew ?_) | (with_reducible refine bset (by first | exact Nat.le_refl _ | (dsimp only; omega)) ?_))), next_none HNO.out HN.out⟩, by simp [intOf]⟩
      · rcases cand_enc 6 x dd nn mm (0) HDD.out HNN.out HMM.out rfl (by omega) (by omega) with ⟨hA, hE⟩ | ⟨hA, u, e, hE, hue⟩
        · have HA := Lib.hid hA
          have HE := Lib.hid hE
          clear hA hE
          go_wp2_with (first | ((go_at_call 16; (with_reducible refine (encodeR_any 6 dd nn mm (0) _).mono ?_); rintro e w' ⟨rfl, hb⟩; rw [HE.out]; obtain ⟨hz, hc, hf⟩ := bcell hb; (try simp only [World.size_alloc] at hz); (try simp only [World.size_setCell] at hz); (try simp only [World.size_drew] at hz); (try simp only [World.heap_drewN] at hz); (try have hs0 : w.heap.size < w'.heap.size := by omega); (try have hs1 : w.heap.size + 1 < w'.heap.size := by omega); (try have hs2 : w.heap.size + 2 < w'.heap.size := by omega)); (try have hsx : wr.heap.size < w'.heap.size := (by omega)); (try have hsw : w.heap.size < w'.heap.size := (by omega))))
          have hBx := HBx.out
          exact bodyPost_ret (v := .agg #[.int .i8 6, .int .i8 dd, .int .i8 nn, .int .i8 mm, .int .i64 (0)]) (by simp [results, Tryd.results13, go_sem, *]) rfl ⟨6, dd, nn, mm, (0), rfl, .inl HA.out, (by repeat (first | (with_reducible exact Below.refl _ _) | (with_reducible assumption) | (with_reducible refine bthen (by with_reducible assumption) ?_) | (with_reducible refine balloc _ ?_) | (with_reducible refine bdrewN _ ?_) | (with_reducible refine bdrew ?_) | (with_reducible refine bset (by first | exact Nat.le_refl _ | (dsimp only; omega)) ?_)))⟩
        · have HE := Lib.hid hE
          have HN := Lib.hid hA
          clear hA hE
          rcases hue with hue | ⟨rfl, hue⟩
          all_goals
            go_wp2_with (first | ((go_at_call 16; (with_reducible refine (encodeR_any 6 dd nn mm (0) _).mono ?_); rintro e w' ⟨rfl, hb⟩; rw [HE.out]; obtain ⟨hz, hc, hf⟩ := bcell hb; (try simp only [World.size_alloc] at hz); (try simp only [World.size_setCell] at hz); (try simp only [World.size_drew] at hz); (try simp only [World.heap_drewN] at hz); (try have hs0 : w.heap.size < w'.heap.size := by omega); (try have hs1 : w.heap.size + 1 < w'.heap.size := by omega); (try have hs2 : w.heap.size + 2 < w'.heap.size := by omega)); (try have hsx : wr.heap.size < w'.heap.size := (by omega)); (try have hsw : w.heap.size < w'.heap.size := (by omega))))
            have hB := HB.out
            exact ⟨⟨7, by omega, by omega, rfl, (by repeat (first | (with_reducible exact Below.refl _ _) | (with_reducible assumption) | (with_reducible refine bthen (by with_reducible assumption) ?_) | (with_reducible refine balloc _ ?_) | (with_reducible refine bdrewN _ ?_) | (with_reducible refine bdrew ?_) | (with_reducible refine bset (by first | exact Nat.le_refl _ | (dsimp only; omega)) ?_))), next_none HNO.out HN.out⟩, by simp [intOf]⟩
      · by_cases h30 : x / 1073741824 = 3
        · have h30' : (x / 1073741824 == 3) = true := by simpa using h30
          have HM7 : Hid (immOf 7 x = -i7) := Lib.hid (by have e : immOf 7 x = if x / 1073741824 = 3 then -(x / 1024 % 4096) else x / 1024 % 4096 := rfl; rw [e, if_pos h30, HMI7.out])
          have hss : ∀ (W : World) (v v' : Value), (W.setCell ⟨wr.heap.size, 4, none⟩ v).setCell ⟨wr.heap.size, 4, none⟩ v' = W.setCell ⟨wr.heap.size, 4, none⟩ v' := fun W v v' => set_set W _ _ v v'
          clear h30
          rcases cand_enc 7 x dd nn 0 (-i7) HDD.out HNN.out rfl HM7.out (by omega) (by omega) with ⟨hA, hE⟩ | ⟨hA, u, e, hE, hue⟩
          · have HA := Lib.hid hA
            have HE := Lib.hid hE
            clear hA hE
            go_wp2_with (first | ((go_at_call 31; (with_reducible refine (refget_any x 21 10 _ h0 (by omega) (by omega) (by omega) (by omega)).mono ?_); rintro e w' ⟨rfl, hb⟩; rw [HI7.out]; obtain ⟨hz, hc, hf⟩ := bcell hb; (try simp only [World.size_alloc] at hz); (try simp only [World.size_setCell] at hz); (try simp only [World.size_drew] at hz); (try simp only [World.heap_drewN] at hz); (try have hs0 : w.heap.size < w'.heap.size := by omega); (try have hs1 : w.heap.size + 1 < w'.heap.size := by omega); (try have hs2 : w.heap.size + 2 < w'.heap.size := by omega)); (try have hsx : wr.heap.size < w'.heap.size := (by omega)); (try have hsw : w.heap.size < w'.heap.size := (by omega))) | ((go_at_call 16; (with_reducible refine (encodeR_any 7 dd nn 0 (-i7) _).mono ?_); rintro e w' ⟨rfl, hb⟩; rw [HE.out]; obtain ⟨hz, hc, hf⟩ := bcell hb; (try simp only [World.size_alloc] at hz); (try simp only [World.size_setCell] at hz); (try simp only [World.size_drew] at hz); (try simp only [World.heap_drewN] at hz); (try have hs0 : w.heap.size < w'.heap.size := by omega); (try have hs1 : w.heap.size + 1 < w'.heap.size := by omega); (try have hs2 : w.heap.size + 2 < w'.heap.size := by omega)); (try have hsx : wr.heap.size < w'.heap.size := (by omega)); (try have hsw : w.heap.size < w'.heap.size := (by omega))))
            have hBx := HBx.out
            exact bodyPost_ret (v := .agg #[.int .i8 7, .int .i8 dd, .int .i8 nn, .int .i8 0, .int .i64 (-i7)]) (by simp [results, Tryd.results13, go_sem, *]) rfl ⟨7, dd, nn, 0, (-i7), rfl, .inl HA.out, (by repeat (first | (with_reducible exact Below.refl _ _) | (with_reducible assumption) | (with_reducible refine bthen (by with_reducible assumption) ?_) | (with_reducible refine balloc _ ?_) | (with_reducible refine bdrewN _ ?_) | (with_reducible refine bdrew ?_) | (with_reducible refine bset (by first | exact Nat.le_refl _ | (dsimp only; omega)) ?_)))⟩
          · have HE := Lib.hid hE
            have HN := Lib.hid hA
            clear hA hE
            rcases hue with hue | ⟨rfl, hue⟩
            all_goals
              go_wp2_with (first | ((go_at_call 31; (with_reducible refine (refget_any x 21 10 _ h0 (by omega) (by omega) (by omega) (by omega)).mono ?_); rintro e w' ⟨rfl, hb⟩; rw [HI7.out]; obtain ⟨hz, hc, hf⟩ := bcell hb; (try simp only [World.size_alloc] at hz); (try simp only [World.size_setCell] at hz); (try simp only [World.size_drew] at hz); (try simp only [World.heap_drewN] at hz); (try have hs0 : w.heap.size < w'.heap.size := by omega); (try have hs1 : w.heap.size + 1 < w'.heap.size := by omega); (try have hs2 : w.heap.size + 2 < w'.heap.size := by omega)); (try have hsx : wr.heap.size < w'.heap.size := (by omega)); (try have hsw : w.heap.size < w'.heap.size := (by omega))) | ((go_at_call 16; (with_reducible refine (encodeR_any 7 dd nn 0 (-i7) _).mono ?_); rintro e w' ⟨rfl, hb⟩; rw [HE.out]; obtain ⟨hz, hc, hf⟩ := bcell hb; (try simp only [World.size_alloc] at hz); (try simp only [World.size_setCell] at hz); (try simp only [World.size_drew] at hz); (try simp only [World.heap_drewN] at hz); (try have hs0 : w.heap.size < w'.heap.size := by omega); (try have hs1 : w.heap.size + 1 < w'.heap.size := by omega); (try have hs2 : w.heap.size + 2 < w'.heap.size := by omega)); (try have hsx : wr.heap.size < w'.heap.size := (by omega)); (try have hsw : w.heap.size < w'.heap.size := (by omega))))
              have hB := HB.out
              exact ⟨⟨8, by omega, by omega, rfl, (by repeat (first | (with_reducible exact Below.refl _ _) | (with_reducible assumption) | (with_reducible refine bthen (by with_reducible assumption) ?_) | (with_reducible refine balloc _ ?_) | (with_reducible refine bdrewN _ ?_) | (with_reducible refine bdrew ?_) | (with_reducible refine bset (by first | exact Nat.le_refl _ | (dsimp only; omega)) ?_))), next_none HNO.out HN.out⟩, by simp [intOf]⟩
        · have h30' : (x / 1073741824 == 3) = false := by simpa using h30
          have HM7 : Hid (immOf 7 x = i7) := Lib.hid (by have e : immOf 7 x = if x / 1073741824 = 3 then -(x / 1024 % 4096) else x / 1024 % 4096 := rfl; rw [e, if_neg h30, HMI7.out])
          have hss : ∀ (W : World) (v v' : Value), (W.setCell ⟨wr.heap.size, 4, none⟩ v).setCell ⟨wr.heap.size, 4, none⟩ v' = W.setCell ⟨wr.heap.size, 4, none⟩ v' := fun W v v' => set_set W _ _ v v'
          clear h30
          rcases cand_enc 7 x dd nn 0 (i7) HDD.out HNN.out rfl HM7.out (by omega) (by omega) with ⟨hA, hE⟩ | ⟨hA, u, e, hE, hue⟩
          · have HA := Lib.hid hA
            have HE := Lib.hid hE
            clear hA hE
            go_wp2_with (first | ((go_at_call 31; (with_reducible refine (refget_any x 21 10 _ h0 (by omega) (by omega) (by omega) (by omega)).mono ?_); rintro e w' ⟨rfl, hb⟩; rw [HI7.out]; obtain ⟨hz, hc, hf⟩ := bcell hb; (try simp only [World.size_alloc] at hz); (try simp only [World.size_setCell] at hz); (try simp only [World.size_drew] at hz); (try simp only [World.heap_drewN] at hz); (try have hs0 : w.heap.size < w'.heap.size := by omega); (try have hs1 : w.heap.size + 1 < w'.heap.size := by omega); (try have hs2 : w.heap.size + 2 < w'.heap.size := by omega)); (try have hsx : wr.heap.size < w'.heap.size := (by omega)); (try have hsw : w.heap.size < w'.heap.size := (by omega))) | ((go_at_call 16; (with_reducible refine (encodeR_any 7 dd nn 0 (i7) _).mono ?_); rintro e w' ⟨rfl, hb⟩; rw [HE.out]; obtain ⟨hz, hc, hf⟩ := bcell hb; (try simp only [World.size_alloc] at hz); (try simp only [World.size_setCell] at hz); (try simp only [World.size_drew] at hz); (try simp only [World.heap_drewN] at hz); (try have hs0 : w.heap.size < w'.heap.size := by omega); (try have hs1 : w.heap.size + 1 < w'.heap.size := by omega); (try have hs2 : w.heap.size + 2 < w'.heap.size := by omega)); (try have hsx : wr.heap.size < w'.heap.size := (by omega)); (try have hsw : w.heap.size < w'.heap.size := (by omega))))
            have hBx := HBx.out
            exact bodyPost_ret (v := .agg #[.int .i8 7, .int .i8 dd, .int .i8 nn, .int .i8 0, .int .i64 (i7)]) (by simp [results, Tryd.results13, go_sem, *]) rfl ⟨7, dd, nn, 0, (i7), rfl, .inl HA.out, (by repeat (first | (with_reducible exact Below.refl _ _) | (with_reducible assumption) | (with_reducible refine bthen (by with_reducible assumption) ?_) | (with_reducible refine balloc _ ?_) | (with_reducible refine bdrewN _ ?_) | (with_reducible refine bdrew ?_) | (with_reducible refine bset (by first | exact Nat.le_refl _ | (dsimp only; omega)) ?_)))⟩
          · have HE := Lib.hid hE
            have HN := Lib.hid hA
            clear hA hE
            rcases hue with hue | ⟨rfl, hue⟩
            all_goals
              go_wp2_with (first | ((go_at_call 31; (with_reducible refine (refget_any x 21 10 _ h0 (by omega) (by omega) (by omega) (by omega)).mono ?_); rintro e w' ⟨rfl, hb⟩; rw [HI7.out]; obtain ⟨hz, hc, hf⟩ := bcell hb; (try simp only [World.size_alloc] at hz); (try simp only [World.size_setCell] at hz); (try simp only [World.size_drew] at hz); (try simp only [World.heap_drewN] at hz); (try have hs0 : w.heap.size < w'.heap.size := by omega); (try have hs1 : w.heap.size + 1 < w'.heap.size := by omega); (try have hs2 : w.heap.size + 2 < w'.heap.size := by omega)); (try have hsx : wr.heap.size < w'.heap.size := (by omega)); (try have hsw : w.heap.size < w'.heap.size := (by omega))) | ((go_at_call 16; (with_reducible refine (encodeR_any 7 dd nn 0 (i7) _).mono ?_); rintro e w' ⟨rfl, hb⟩; rw [HE.out]; obtain ⟨hz, hc, hf⟩ := bcell hb; (try simp only [World.size_alloc] at hz); (try simp only [World.size_setCell] at hz); (try simp only [World.size_drew] at hz); (try simp only [World.heap_drewN] at hz); (try have hs0 : w.heap.size < w'.heap.size := by omega); (try have hs1 : w.heap.size + 1 < w'.heap.size := by omega); (try have hs2 : w.heap.size + 2 < w'.heap.size := by omega)); (try have hsx : wr.heap.size < w'.heap.size := (by omega)); (try have hsw : w.heap.size < w'.heap.size := (by omega))))
              have hB := HB.out
              exact ⟨⟨8, by omega, by omega, rfl, (by repeat (first | (with_reducible exact Below.refl _ _) | (with_reducible assumption) | (with_reducible refine bthen (by with_reducible assumption) ?_) | (with_reducible refine balloc _ ?_) | (with_reducible refine bdrewN _ ?_) | (with_reducible refine bdrew ?_) | (with_reducible refine bset (by first | exact Nat.le_refl _ | (dsimp only; omega)) ?_))), next_none HNO.out HN.out⟩, by simp [intOf]⟩
      · rcases cand_enc 8 x dd nn 0 (0) HDD.out HNN.out rfl rfl (by omega) (by omega) with ⟨hA, hE⟩ | ⟨hA, u, e, hE, hue⟩
        · have HA := Lib.hid hA
          have HE := Lib.hid hE
          clear hA hE
          go_wp2_with (first | ((go_at_call 16; (with_reducible refine (encodeR_any 8 dd nn 0 (0) _).mono ?_); rintro e w' ⟨rfl, hb⟩; rw [HE.out]; obtain ⟨hz, hc, hf⟩ := bcell hb; (try simp only [World.size_alloc] at hz); (try simp only [World.size_setCell] at hz); (try simp only [World.size_drew] at hz); (try simp only [World.heap_drewN] at hz); (try have hs0 : w.heap.size < w'.heap.size := by omega); (try have hs1 : w.heap.size + 1 < w'.heap.size := by omega); (try have hs2 : w.heap.size + 2 < w'.heap.size := by omega)); (try have hsx : wr.heap.size < w'.heap.size := (by omega)); (try have hsw : w.heap.size < w'.heap.size := (by omega))))
          have hBx := HBx.out
          exact bodyPost_ret (v := .agg #[.int .i8 8, .int .i8 dd, .int .i8 nn, .int .i8 0, .int .i64 (0)]) (by simp [results, Tryd.results13, go_sem, *]) rfl ⟨8, dd, nn, 0, (0), rfl, .inl HA.out, (by repeat (first | (with_reducible exact Below.refl _ _) | (with_reducible assumption) | (with_reducible refine bthen (by with_reducible assumption) ?_) | (with_reducible refine balloc _ ?_) | (with_reducible refine bdrewN _ ?_) | (with_reducible refine bdrew ?_) | (with_reducible refine bset (by first | exact Nat.le_refl _ | (dsimp only; omega)) ?_)))⟩
        · have HE := Lib.hid hE
          have HN := Lib.hid hA
          clear hA hE
          rcases hue with hue | ⟨rfl, hue⟩
          all_goals
            go_wp2_with (first | ((go_at_call 16; (with_reducible refine (encodeR_any 8 dd nn 0 (0) _).mono ?_); rintro e w' ⟨rfl, hb⟩; rw [HE.out]; obtain ⟨hz, hc, hf⟩ := bcell hb; (try simp only [World.size_alloc] at hz); (try simp only [World.size_setCell] at hz); (try simp only [World.size_drew] at hz); (try simp only [World.heap_drewN] at hz); (try have hs0 : w.heap.size < w'.heap.size := by omega); (try have hs1 : w.heap.size + 1 < w'.heap.size := by omega); (try have hs2 : w.heap.size + 2 < w'.heap.size := by omega)); (try have hsx : wr.heap.size < w'.heap.size := (by omega)); (try have hsw : w.heap.size < w'.heap.size := (by omega))))
            have hB := HB.out
            exact ⟨⟨9, by omega, by omega, rfl, (by repeat (first | (with_reducible exact Below.refl _ _) | (with_reducible assumption) | (with_reducible refine bthen (by with_reducible assumption) ?_) | (with_reducible refine balloc _ ?_) | (with_reducible refine bdrewN _ ?_) | (with_reducible refine bdrew ?_) | (with_reducible refine bset (by first | exact Nat.le_refl _ | (dsimp only; omega)) ?_))), next_none HNO.out HN.out⟩, by simp [intOf]⟩
      · rcases cand_enc 9 x dd nn 0 (0) HDD.out HNN.out rfl rfl (by omega) (by omega) with ⟨hA, hE⟩ | ⟨hA, u, e, hE, hue⟩
        · have HA := Lib.hid hA
          have HE := Lib.hid hE
          clear hA hE
          go_wp2_with (first | ((go_at_call 16; (with_reducible refine (encodeR_any 9 dd nn 0 (0) _).mono ?_); rintro e w' ⟨rfl, hb⟩; rw [HE.out]; obtain ⟨hz, hc, hf⟩ := bcell hb; (try simp only [World.size_alloc] at hz); (try simp only [World.size_setCell] at hz); (try simp only [World.size_drew] at hz); (try simp only [World.heap_drewN] at hz); (try have hs0 : w.heap.size < w'.heap.size := by omega); (try have hs1 : w.heap.size + 1 < w'.heap.size := by omega); (try have hs2 : w.heap.size + 2 < w'.heap.size := by omega)); (try have hsx : wr.heap.size < w'.heap.size := (by omega)); (try have hsw : w.heap.size < w'.heap.size := (by omega))))
          have hBx := HBx.out
          exact bodyPost_ret (v := .agg #[.int .i8 9, .int .i8 dd, .int .i8 nn, .int .i8 0, .int .i64 (0)]) (by simp [results, Tryd.results13, go_sem, *]) rfl ⟨9, dd, nn, 0, (0), rfl, .inl HA.out, (by repeat (first | (with_reducible exact Below.refl _ _) | (with_reducible assumption) | (with_reducible refine bthen (by with_reducible assumption) ?_) | (with_reducible refine balloc _ ?_) | (with_reducible refine bdrewN _ ?_) | (with_reducible refine bdrew ?_) | (with_reducible refine bset (by first | exact Nat.le_refl _ | (dsimp only; omega)) ?_)))⟩
        · have HE := Lib.hid hE
          have HN := Lib.hid hA
          clear hA hE
          rcases hue with hue | ⟨rfl, hue⟩
          all_goals
            go_wp2_with (first | ((go_at_call 16; (with_reducible refine (encodeR_any 9 dd nn 0 (0) _).mono ?_); rintro e w' ⟨rfl, hb⟩; rw [HE.out]; obtain ⟨hz, hc, hf⟩ := bcell hb; (try simp only [World.size_alloc] at hz); (try simp only [World.size_setCell] at hz); (try simp only [World.size_drew] at hz); (try simp only [World.heap_drewN] at hz); (try have hs0 : w.heap.size < w'.heap.size := by omega); (try have hs1 : w.heap.size + 1 < w'.heap.size := by omega); (try have hs2 : w.heap.size + 2 < w'.heap.size := by omega)); (try have hsx : wr.heap.size < w'.heap.size := (by omega)); (try have hsw : w.heap.size < w'.heap.size := (by omega))))
            have hB := HB.out
            exact ⟨⟨10, by omega, by omega, rfl, (by repeat (first | (with_reducible exact Below.refl _ _) | (with_reducible assumption) | (with_reducible refine bthen (by with_reducible assumption) ?_) | (with_reducible refine balloc _ ?_) | (with_reducible refine bdrewN _ ?_) | (with_reducible refine bdrew ?_) | (with_reducible refine bset (by first | exact Nat.le_refl _ | (dsimp only; omega)) ?_))), next_none HNO.out HN.out⟩, by simp [intOf]⟩
      · rcases cand_enc 10 x dd nn 0 (0) HDD.out HNN.out rfl rfl (by omega) (by omega) with ⟨hA, hE⟩ | ⟨hA, u, e, hE, hue⟩
        · have HA := Lib.hid hA
          have HE := Lib.hid hE
          clear hA hE
          go_wp2_with (first | ((go_at_call 16; (with_reducible refine (encodeR_any 10 dd nn 0 (0) _).mono ?_); rintro e w' ⟨rfl, hb⟩; rw [HE.out]; obtain ⟨hz, hc, hf⟩ := bcell hb; (try simp only [World.size_alloc] at hz); (try simp only [World.size_setCell] at hz); (try simp only [World.size_drew] at hz); (try simp only [World.heap_drewN] at hz); (try have hs0 : w.heap.size < w'.heap.size := by omega); (try have hs1 : w.heap.size + 1 < w'.heap.size := by omega); (try have hs2 : w.heap.size + 2 < w'.heap.size := by omega)); (try have hsx : wr.heap.size < w'.heap.size := (by omega)); (try have hsw : w.heap.size < w'.heap.size := (by omega))))
          have hBx := HBx.out
          exact bodyPost_ret (v := .agg #[.int .i8 10, .int .i8 dd, .int .i8 nn, .int .i8 0, .int .i64 (0)]) (by simp [results, Tryd.results13, go_sem, *]) rfl ⟨10, dd, nn, 0, (0), rfl, .inl HA.out, (by repeat (first | (with_reducible exact Below.refl _ _) | (with_reducible assumption) | (with_reducible refine bthen (by with_reducible assumption) ?_) | (with_reducible refine balloc _ ?_) | (with_reducible refine bdrewN _ ?_) | (with_reducible refine bdrew ?_) | (with_reducible refine bset (by first | exact Nat.le_refl _ | (dsimp only; omega)) ?_)))⟩
        · have HE := Lib.hid hE
          have HN := Lib.hid hA
          clear hA hE
          rcases hue with hue | ⟨rfl, hue⟩
          all_goals
            go_wp2_with (first | ((go_at_call 16; (with_reducible refine (encodeR_any 10 dd nn 0 (0) _).mono ?_); rintro e w' ⟨rfl, hb⟩; rw [HE.out]; obtain ⟨hz, hc, hf⟩ := bcell hb; (try simp only [World.size_alloc] at hz); (try simp only [World.size_setCell] at hz); (try simp only [World.size_drew] at hz); (try simp only [World.heap_drewN] at hz); (try have hs0 : w.heap.size < w'.heap.size := by omega); (try have hs1 : w.heap.size + 1 < w'.heap.size := by omega); (try have hs2 : w.heap.size + 2 < w'.heap.size := by omega)); (try have hsx : wr.heap.size < w'.heap.size := (by omega)); (try have hsw : w.heap.size < w'.heap.size := (by omega))))
            have hB := HB.out
            exact ⟨⟨11, by omega, by omega, rfl, (by repeat (first | (with_reducible exact Below.refl _ _) | (with_reducible assumption) | (with_reducible refine bthen (by with_reducible assumption) ?_) | (with_reducible refine balloc _ ?_) | (with_reducible refine bdrewN _ ?_) | (with_reducible refine bdrew ?_) | (with_reducible refine bset (by first | exact Nat.le_refl _ | (dsimp only; omega)) ?_))), next_none HNO.out HN.out⟩, by simp [intOf]⟩
      · rcases cand_enc 11 x dd nn mm (0) HDD.out HNN.out HMM.out rfl (by omega) (by omega) with ⟨hA, hE⟩ | ⟨hA, u, e, hE, hue⟩
        · have HA := Lib.hid hA
          have HE := Lib.hid hE
          clear hA hE
          go_wp2_with (first | ((go_at_call 16; (with_reducible refine (encodeR_any 11 dd nn mm (0) _).mono ?_); rintro e w' ⟨rfl, hb⟩; rw [HE.out]; obtain ⟨hz, hc, hf⟩ := bcell hb; (try simp only [World.size_alloc] at hz); (try simp only [World.size_setCell] at hz); (try simp only [World.size_drew] at hz); (try simp only [World.heap_drewN] at hz); (try have hs0 : w.heap.size < w'.heap.size := by omega); (try have hs1 : w.heap.size + 1 < w'.heap.size := by omega); (try have hs2 : w.heap.size + 2 < w'.heap.size := by omega)); (try have hsx : wr.heap.size < w'.heap.size := (by omega)); (try have hsw : w.heap.size < w'.heap.size := (by omega))))
          have hBx := HBx.out
          exact bodyPost_ret (v := .agg #[.int .i8 11, .int .i8 dd, .int .i8 nn, .int .i8 mm, .int .i64 (0)]) (by simp [results, Tryd.results13, go_sem, *]) rfl ⟨11, dd, nn, mm, (0), rfl, .inl HA.out, (by repeat (first | (with_reducible exact Below.refl _ _) | (with_reducible assumption) | (with_reducible refine bthen (by with_reducible assumption) ?_) | (with_reducible refine balloc _ ?_) | (with_reducible refine bdrewN _ ?_) | (with_reducible refine bdrew ?_) | (with_reducible refine bset (by first | exact Nat.le_refl _ | (dsimp only; omega)) ?_)))⟩
        · have HE := Lib.hid hE
          have HN := Lib.hid hA
          clear hA hE
          rcases hue with hue | ⟨rfl, hue⟩
          all_goals
            go_wp2_with (first | ((go_at_call 16; (with_reducible refine (encodeR_any 11 dd nn mm (0) _).mono ?_); rintro e w' ⟨rfl, hb⟩; rw [HE.out]; obtain ⟨hz, hc, hf⟩ := bcell hb; (try simp only [World.size_alloc] at hz); (try simp only [World.size_setCell] at hz); (try simp only [World.size_drew] at hz); (try simp only [World.heap_drewN] at hz); (try have hs0 : w.heap.size < w'.heap.size := by omega); (try have hs1 : w.heap.size + 1 < w'.heap.size := by omega); (try have hs2 : w.heap.size + 2 < w'.heap.size := by omega)); (try have hsx : wr.heap.size < w'.heap.size := (by omega)); (try have hsw : w.heap.size < w'.heap.size := (by omega))))
            have hB := HB.out
            exact ⟨⟨12, by omega, by omega, rfl, (by repeat (first | (with_reducible exact Below.refl _ _) | (with_reducible assumption) | (with_reducible refine bthen (by with_reducible assumption) ?_) | (with_reducible refine balloc _ ?_) | (with_reducible refine bdrewN _ ?_) | (with_reducible refine bdrew ?_) | (with_reducible refine bset (by first | exact Nat.le_refl _ | (dsimp only; omega)) ?_))), next_none HNO.out HN.out⟩, by simp [intOf]⟩
      · rcases cand_enc 12 x dd nn 0 (0) HDD.out HNN.out rfl rfl (by omega) (by omega) with ⟨hA, hE⟩ | ⟨hA, u, e, hE, hue⟩
        · have HA := Lib.hid hA
          have HE := Lib.hid hE
          clear hA hE
          go_wp2_with (first | ((go_at_call 16; (with_reducible refine (encodeR_any 12 dd nn 0 (0) _).mono ?_); rintro e w' ⟨rfl, hb⟩; rw [HE.out]; obtain ⟨hz, hc, hf⟩ := bcell hb; (try simp only [World.size_alloc] at hz); (try simp only [World.size_setCell] at hz); (try simp only [World.size_drew] at hz); (try simp only [World.heap_drewN] at hz); (try have hs0 : w.heap.size < w'.heap.size := by omega); (try have hs1 : w.heap.size + 1 < w'.heap.size := by omega); (try have hs2 : w.heap.size + 2 < w'.heap.size := by omega)); (try have hsx : wr.heap.size < w'.heap.size := (by omega)); (try have hsw : w.heap.size < w'.heap.size := (by omega))))
          have hBx := HBx.out
          exact bodyPost_ret (v := .agg #[.int .i8 12, .int .i8 dd, .int .i8 nn, .int .i8 0, .int .i64 (0)]) (by simp [results, Tryd.results13, go_sem, *]) rfl ⟨12, dd, nn, 0, (0), rfl, .inl HA.out, (by repeat (first | (with_reducible exact Below.refl _ _) | (with_reducible assumption) | (with_reducible refine bthen (by with_reducible assumption) ?_) | (with_reducible refine balloc _ ?_) | (with_reducible refine bdrewN _ ?_) | (with_reducible refine bdrew ?_) | (with_reducible refine bset (by first | exact Nat.le_refl _ | (dsimp only; omega)) ?_)))⟩
        · have HE := Lib.hid hE
          have HN := Lib.hid hA
          clear hA hE
          rcases hue with hue | ⟨rfl, hue⟩
          all_goals
            go_wp2_with (first | ((go_at_call 16; (with_reducible refine (encodeR_any 12 dd nn 0 (0) _).mono ?_); rintro e w' ⟨rfl, hb⟩; rw [HE.out]; obtain ⟨hz, hc, hf⟩ := bcell hb; (try simp only [World.size_alloc] at hz); (try simp only [World.size_setCell] at hz); (try simp only [World.size_drew] at hz); (try simp only [World.heap_drewN] at hz); (try have hs0 : w.heap.size < w'.heap.size := by omega); (try have hs1 : w.heap.size + 1 < w'.heap.size := by omega); (try have hs2 : w.heap.size + 2 < w'.heap.size := by omega)); (try have hsx : wr.heap.size < w'.heap.size := (by omega)); (try have hsw : w.heap.size < w'.heap.size := (by omega))))
            have hB := HB.out
            exact ⟨⟨13, by omega, by omega, rfl, (by repeat (first | (with_reducible exact Below.refl _ _) | (with_reducible assumption) | (with_reducible refine bthen (by with_reducible assumption) ?_) | (with_reducible refine balloc _ ?_) | (with_reducible refine bdrewN _ ?_) | (with_reducible refine bdrew ?_) | (with_reducible refine bset (by first | exact Nat.le_refl _ | (dsimp only; omega)) ?_))), next_none HNO.out HN.out⟩, by simp [intOf]⟩
      · rcases cand_enc 13 x 0 0 0 (0) rfl rfl rfl rfl (by omega) (by omega) with ⟨hA, hE⟩ | ⟨hA, u, e, hE, hue⟩
        · have HA := Lib.hid hA
          have HE := Lib.hid hE
          clear hA hE
          go_wp2_with (first | ((go_at_call 16; (with_reducible refine (encodeR_any 13 0 0 0 (0) _).mono ?_); rintro e w' ⟨rfl, hb⟩; rw [HE.out]; obtain ⟨hz, hc, hf⟩ := bcell hb; (try simp only [World.size_alloc] at hz); (try simp only [World.size_setCell] at hz); (try simp only [World.size_drew] at hz); (try simp only [World.heap_drewN] at hz); (try have hs0 : w.heap.size < w'.heap.size := by omega); (try have hs1 : w.heap.size + 1 < w'.heap.size := by omega); (try have hs2 : w.heap.size + 2 < w'.heap.size := by omega)); (try have hsx : wr.heap.size < w'.heap.size := (by omega)); (try have hsw : w.heap.size < w'.heap.size := (by omega))))
          have hBx := HBx.out
          exact bodyPost_ret (v := .agg #[.int .i8 13, .int .i8 0, .int .i8 0, .int .i8 0, .int .i64 (0)]) (by simp [results, Tryd.results13, go_sem, *]) rfl ⟨13, 0, 0, 0, (0), rfl, .inl HA.out, (by repeat (first | (with_reducible exact Below.refl _ _) | (with_reducible assumption) | (with_reducible refine bthen (by with_reducible assumption) ?_) | (with_reducible refine balloc _ ?_) | (with_reducible refine bdrewN _ ?_) | (with_reducible refine bdrew ?_) | (with_reducible refine bset (by first | exact Nat.le_refl _ | (dsimp only; omega)) ?_)))⟩
        · have HE := Lib.hid hE
          have HN := Lib.hid hA
          clear hA hE
          rcases hue with hue | ⟨rfl, hue⟩
          all_goals
            go_wp2_with (first | ((go_at_call 16; (with_reducible refine (encodeR_any 13 0 0 0 (0) _).mono ?_); rintro e w' ⟨rfl, hb⟩; rw [HE.out]; obtain ⟨hz, hc, hf⟩ := bcell hb; (try simp only [World.size_alloc] at hz); (try simp only [World.size_setCell] at hz); (try simp only [World.size_drew] at hz); (try simp only [World.heap_drewN] at hz); (try have hs0 : w.heap.size < w'.heap.size := by omega); (try have hs1 : w.heap.size + 1 < w'.heap.size := by omega); (try have hs2 : w.heap.size + 2 < w'.heap.size := by omega)); (try have hsx : wr.heap.size < w'.heap.size := (by omega)); (try have hsw : w.heap.size < w'.heap.size := (by omega))))
            have hB := HB.out
            exact ⟨⟨14, by omega, by omega, rfl, (by repeat (first | (with_reducible exact Below.refl _ _) | (with_reducible assumption) | (with_reducible refine bthen (by with_reducible assumption) ?_) | (with_reducible refine balloc _ ?_) | (with_reducible refine bdrewN _ ?_) | (with_reducible refine bdrew ?_) | (with_reducible refine bset (by first | exact Nat.le_refl _ | (dsimp only; omega)) ?_))), next_none HNO.out HN.out⟩, by simp [intOf]⟩
      · rcases cand_enc 14 x 0 0 0 (s25) rfl rfl rfl HMS25.out (by omega) (by omega) with ⟨hA, hE⟩ | ⟨hA, u, e, hE, hue⟩
        · have HA := Lib.hid hA
          have HE := Lib.hid hE
          clear hA hE
          go_wp2_with (first | ((go_at_call 32; (with_reducible refine (refsign_any x 25 _ h0 (by omega) (by omega) (by omega)).mono ?_); rintro e w' ⟨rfl, hb⟩; rw [HS25.out]; obtain ⟨hz, hc, hf⟩ := bcell hb; (try simp only [World.size_alloc] at hz); (try simp only [World.size_setCell] at hz); (try simp only [World.size_drew] at hz); (try simp only [World.heap_drewN] at hz); (try have hs0 : w.heap.size < w'.heap.size := by omega); (try have hs1 : w.heap.size + 1 < w'.heap.size := by omega); (try have hs2 : w.heap.size + 2 < w'.heap.size := by omega)); (try have hsx : wr.heap.size < w'.heap.size := (by omega)); (try have hsw : w.heap.size < w'.heap.size := (by omega))) | ((go_at_call 16; (with_reducible refine (encodeR_any 14 0 0 0 (s25) _).mono ?_); rintro e w' ⟨rfl, hb⟩; rw [HE.out]; obtain ⟨hz, hc, hf⟩ := bcell hb; (try simp only [World.size_alloc] at hz); (try simp only [World.size_setCell] at hz); (try simp only [World.size_drew] at hz); (try simp only [World.heap_drewN] at hz); (try have hs0 : w.heap.size < w'.heap.size := by omega); (try have hs1 : w.heap.size + 1 < w'.heap.size := by omega); (try have hs2 : w.heap.size + 2 < w'.heap.size := by omega)); (try have hsx : wr.heap.size < w'.heap.size := (by omega)); (try have hsw : w.heap.size < w'.heap.size := (by omega))))
          have hBx := HBx.out
          exact bodyPost_ret (v := .agg #[.int .i8 14, .int .i8 0, .int .i8 0, .int .i8 0, .int .i64 (s25)]) (by simp [results, Tryd.results13, go_sem, *]) rfl ⟨14, 0, 0, 0, (s25), rfl, .inl HA.out, (by repeat (first | (with_reducible exact Below.refl _ _) | (with_reducible assumption) | (with_reducible refine bthen (by with_reducible assumption) ?_) | (with_reducible refine balloc _ ?_) | (with_reducible refine bdrewN _ ?_) | (with_reducible refine bdrew ?_) | (with_reducible refine bset (by first | exact Nat.le_refl _ | (dsimp only; omega)) ?_)))⟩
        · have HE := Lib.hid hE
          have HN := Lib.hid hA
          clear hA hE
          rcases hue with hue | ⟨rfl, hue⟩
          all_goals
            go_wp2_with (first | ((go_at_call 32; (with_reducible refine (refsign_any x 25 _ h0 (by omega) (by omega) (by omega)).mono ?_); rintro e w' ⟨rfl, hb⟩; rw [HS25.out]; obtain ⟨hz, hc, hf⟩ := bcell hb; (try simp only [World.size_alloc] at hz); (try simp only [World.size_setCell] at hz); (try simp only [World.size_drew] at hz); (try simp only [World.heap_drewN] at hz); (try have hs0 : w.heap.size < w'.heap.size := by omega); (try have hs1 : w.heap.size + 1 < w'.heap.size := by omega); (try have hs2 : w.heap.size + 2 < w'.heap.size := by omega)); (try have hsx : wr.heap.size < w'.heap.size := (by omega)); (try have hsw : w.heap.size < w'.heap.size := (by omega))) | ((go_at_call 16; (with_reducible refine (encodeR_any 14 0 0 0 (s25) _).mono ?_); rintro e w' ⟨rfl, hb⟩; rw [HE.out]; obtain ⟨hz, hc, hf⟩ := bcell hb; (try simp only [World.size_alloc] at hz); (try simp only [World.size_setCell] at hz); (try simp only [World.size_drew] at hz); (try simp only [World.heap_drewN] at hz); (try have hs0 : w.heap.size < w'.heap.size := by omega); (try have hs1 : w.heap.size + 1 < w'.heap.size := by omega); (try have hs2 : w.heap.size + 2 < w'.heap.size := by omega)); (try have hsx : wr.heap.size < w'.heap.size := (by omega)); (try have hsw : w.heap.size < w'.heap.size := (by omega))))
            have hB := HB.out
            exact ⟨⟨15, by omega, by omega, rfl, (by repeat (first | (with_reducible exact Below.refl _ _) | (with_reducible assumption) | (with_reducible refine bthen (by with_reducible assumption) ?_) | (with_reducible refine balloc _ ?_) | (with_reducible refine bdrewN _ ?_) | (with_reducible refine bdrew ?_) | (with_reducible refine bset (by first | exact Nat.le_refl _ | (dsimp only; omega)) ?_))), next_none HNO.out HN.out⟩, by simp [intOf]⟩
      · rcases cand_enc 15 x dd 0 0 (s18) HDD.out rfl rfl HMS15.out (by omega) (by omega) with ⟨hA, hE⟩ | ⟨hA, u, e, hE, hue⟩
        · have HA := Lib.hid hA
          have HE := Lib.hid hE
          clear hA hE
          go_wp2_with (first | ((go_at_call 31; (with_reducible refine (refget_any x 23 5 _ h0 (by omega) (by omega) (by omega) (by omega)).mono ?_); rintro e w' ⟨rfl, hb⟩; rw [HG23.out]; obtain ⟨hz, hc, hf⟩ := bcell hb; (try simp only [World.size_alloc] at hz); (try simp only [World.size_setCell] at hz); (try simp only [World.size_drew] at hz); (try simp only [World.heap_drewN] at hz); (try have hs0 : w.heap.size < w'.heap.size := by omega); (try have hs1 : w.heap.size + 1 < w'.heap.size := by omega); (try have hs2 : w.heap.size + 2 < w'.heap.size := by omega)); (try have hsx : wr.heap.size < w'.heap.size := (by omega)); (try have hsw : w.heap.size < w'.heap.size := (by omega))) | ((go_at_call 32; (with_reducible refine (refsign_any g23 18 _ b23a (by omega) (by omega) (by omega)).mono ?_); rintro e w' ⟨rfl, hb⟩; rw [HS18.out]; obtain ⟨hz, hc, hf⟩ := bcell hb; (try simp only [World.size_alloc] at hz); (try simp only [World.size_setCell] at hz); (try simp only [World.size_drew] at hz); (try simp only [World.heap_drewN] at hz); (try have hs0 : w.heap.size < w'.heap.size := by omega); (try have hs1 : w.heap.size + 1 < w'.heap.size := by omega); (try have hs2 : w.heap.size + 2 < w'.heap.size := by omega)); (try have hsx : wr.heap.size < w'.heap.size := (by omega)); (try have hsw : w.heap.size < w'.heap.size := (by omega))) | ((go_at_call 16; (with_reducible refine (encodeR_any 15 dd 0 0 (s18) _).mono ?_); rintro e w' ⟨rfl, hb⟩; rw [HE.out]; obtain ⟨hz, hc, hf⟩ := bcell hb; (try simp only [World.size_alloc] at hz); (try simp only [World.size_setCell] at hz); (try simp only [World.size_drew] at hz); (try simp only [World.heap_drewN] at hz); (try have hs0 : w.heap.size < w'.heap.size := by omega); (try have hs1 : w.heap.size + 1 < w'.heap.size := by omega); (try have hs2 : w.heap.size + 2 < w'.heap.size := by omega)); (try have hsx : wr.heap.size < w'.heap.size := (by omega)); (try have hsw : w.heap.size < w'.heap.size := (by omega))))
          have hBx := HBx.out
          exact bodyPost_ret (v := .agg #[.int .i8 15, .int .i8 dd, .int .i8 0, .int .i8 0, .int .i64 (s18)]) (by simp [results, Tryd.results13, go_sem, *]) rfl ⟨15, dd, 0, 0, (s18), rfl, .inl HA.out, (by repeat (first | (with_reducible exact Below.refl _ _) | (with_reducible assumption) | (with_reducible refine bthen (by with_reducible assumption) ?_) | (with_reducible refine balloc _ ?_) | (with_reducible refine bdrewN _ ?_) | (with_reducible refine bdrew ?_) | (with_reducible refine bset (by first | exact Nat.le_refl _ | (dsimp only; omega)) ?_)))⟩
        · have HE := Lib.hid hE
          have HN := Lib.hid hA
          clear hA hE
          rcases hue with hue | ⟨rfl, hue⟩
          all_goals
            go_wp2_with (first | ((go_at_call 31; (with_reducible refine (refget_any x 23 5 _ h0 (by omega) (by omega) (by omega) (by omega)).mono ?_); rintro e w' ⟨rfl, hb⟩; rw [HG23.out]; obtain ⟨hz, hc, hf⟩ := bcell hb; (try simp only [World.size_alloc] at hz); (try simp only [World.size_setCell] at hz); (try simp only [World.size_drew] at hz); (try simp only [World.heap_drewN] at hz); (try have hs0 : w.heap.size < w'.heap.size := by omega); (try have hs1 : w.heap.size + 1 < w'.heap.size := by omega); (try have hs2 : w.heap.size + 2 < w'.heap.size := by omega)); (try have hsx : wr.heap.size < w'.heap.size := (by omega)); (try have hsw : w.heap.size < w'.heap.size := (by omega))) | ((go_at_call 32; (with_reducible refine (refsign_any g23 18 _ b23a (by omega) (by omega) (by omega)).mono ?_); rintro e w' ⟨rfl, hb⟩; rw [HS18.out]; obtain ⟨hz, hc, hf⟩ := bcell hb; (try simp only [World.size_alloc] at hz); (try simp only [World.size_setCell] at hz); (try simp only [World.size_drew] at hz); (try simp only [World.heap_drewN] at hz); (try have hs0 : w.heap.size < w'.heap.size := by omega); (try have hs1 : w.heap.size + 1 < w'.heap.size := by omega); (try have hs2 : w.heap.size + 2 < w'.heap.size := by omega)); (try have hsx : wr.heap.size < w'.heap.size := (by omega)); (try have hsw : w.heap.size < w'.heap.size := (by omega))) | ((go_at_call 16; (with_reducible refine (encodeR_any 15 dd 0 0 (s18) _).mono ?_); rintro e w' ⟨rfl, hb⟩; rw [HE.out]; obtain ⟨hz, hc, hf⟩ := bcell hb; (try simp only [World.size_alloc] at hz); (try simp only [World.size_setCell] at hz); (try simp only [World.size_drew] at hz); (try simp only [World.heap_drewN] at hz); (try have hs0 : w.heap.size < w'.heap.size := by omega); (try have hs1 : w.heap.size + 1 < w'.heap.size := by omega); (try have hs2 : w.heap.size + 2 < w'.heap.size := by omega)); (try have hsx : wr.heap.size < w'.heap.size := (by omega)); (try have hsw : w.heap.size < w'.heap.size := (by omega))))
            have hB := HB.out
            exact ⟨⟨16, by omega, by omega, rfl, (by repeat (first | (with_reducible exact Below.refl _ _) | (with_reducible assumption) | (with_reducible refine bthen (by with_reducible assumption) ?_) | (with_reducible refine balloc _ ?_) | (with_reducible refine bdrewN _ ?_) | (with_reducible refine bdrew ?_) | (with_reducible refine bset (by first | exact Nat.le_refl _ | (dsimp only; omega)) ?_))), next_none HNO.out HN.out⟩, by simp [intOf]⟩
      · rcases cand_enc 16 x dd 0 0 (s18) HDD.out rfl rfl HMS16.out (by omega) (by omega) with ⟨hA, hE⟩ | ⟨hA, u, e, hE, hue⟩
        · have HA := Lib.hid hA
          have HE := Lib.hid hE
          clear hA hE
          go_wp2_with (first | ((go_at_call 31; (with_reducible refine (refget_any x 23 5 _ h0 (by omega) (by omega) (by omega) (by omega)).mono ?_); rintro e w' ⟨rfl, hb⟩; rw [HG23.out]; obtain ⟨hz, hc, hf⟩ := bcell hb; (try simp only [World.size_alloc] at hz); (try simp only [World.size_setCell] at hz); (try simp only [World.size_drew] at hz); (try simp only [World.heap_drewN] at hz); (try have hs0 : w.heap.size < w'.heap.size := by omega); (try have hs1 : w.heap.size + 1 < w'.heap.size := by omega); (try have hs2 : w.heap.size + 2 < w'.heap.size := by omega)); (try have hsx : wr.heap.size < w'.heap.size := (by omega)); (try have hsw : w.heap.size < w'.heap.size := (by omega))) | ((go_at_call 32; (with_reducible refine (refsign_any g23 18 _ b23a (by omega) (by omega) (by omega)).mono ?_); rintro e w' ⟨rfl, hb⟩; rw [HS18.out]; obtain ⟨hz, hc, hf⟩ := bcell hb; (try simp only [World.size_alloc] at hz); (try simp only [World.size_setCell] at hz); (try simp only [World.size_drew] at hz); (try simp only [World.heap_drewN] at hz); (try have hs0 : w.heap.size < w'.heap.size := by omega); (try have hs1 : w.heap.size + 1 < w'.heap.size := by omega); (try have hs2 : w.heap.size + 2 < w'.heap.size := by omega)); (try have hsx : wr.heap.size < w'.heap.size := (by omega)); (try have hsw : w.heap.size < w'.heap.size := (by omega))) | ((go_at_call 16; (with_reducible refine (encodeR_any 16 dd 0 0 (s18) _).mono ?_); rintro e w' ⟨rfl, hb⟩; rw [HE.out]; obtain ⟨hz, hc, hf⟩ := bcell hb; (try simp only [World.size_alloc] at hz); (try simp only [World.size_setCell] at hz); (try simp only [World.size_drew] at hz); (try simp only [World.heap_drewN] at hz); (try have hs0 : w.heap.size < w'.heap.size := by omega); (try have hs1 : w.heap.size + 1 < w'.heap.size := by omega); (try have hs2 : w.heap.size + 2 < w'.heap.size := by omega)); (try have hsx : wr.heap.size < w'.heap.size := (by omega)); (try have hsw : w.heap.size < w'.heap.size := (by omega))))
          have hBx := HBx.out
          exact bodyPost_ret (v := .agg #[.int .i8 16, .int .i8 dd, .int .i8 0, .int .i8 0, .int .i64 (s18)]) (by simp [results, Tryd.results13, go_sem, *]) rfl ⟨16, dd, 0, 0, (s18), rfl, .inl HA.out, (by repeat (first | (with_reducible exact Below.refl _ _) | (with_reducible assumption) | (with_reducible refine bthen (by with_reducible assumption) ?_) | (with_reducible refine balloc _ ?_) | (with_reducible refine bdrewN _ ?_) | (with_reducible refine bdrew ?_) | (with_reducible refine bset (by first | exact Nat.le_refl _ | (dsimp only; omega)) ?_)))⟩
        · have HE := Lib.hid hE
          have HN := Lib.hid hA
          clear hA hE
          rcases hue with hue | ⟨rfl, hue⟩
          all_goals
            go_wp2_with (first | ((go_at_call 31; (with_reducible refine (refget_any x 23 5 _ h0 (by omega) (by omega) (by omega) (by omega)).mono ?_); rintro e w' ⟨rfl, hb⟩; rw [HG23.out]; obtain ⟨hz, hc, hf⟩ := bcell hb; (try simp only [World.size_alloc] at hz); (try simp only [World.size_setCell] at hz); (try simp only [World.size_drew] at hz); (try simp only [World.heap_drewN] at hz); (try have hs0 : w.heap.size < w'.heap.size := by omega); (try have hs1 : w.heap.size + 1 < w'.heap.size := by omega); (try have hs2 : w.heap.size + 2 < w'.heap.size := by omega)); (try have hsx : wr.heap.size < w'.heap.size := (by omega)); (try have hsw : w.heap.size < w'.heap.size := (by omega))) | ((go_at_call 32; (with_reducible refine (refsign_any g23 18 _ b23a (by omega) (by omega) (by omega)).mono ?_); rintro e w' ⟨rfl, hb⟩; rw [HS18.out]; obtain ⟨hz, hc, hf⟩ := bcell hb; (try simp only [World.size_alloc] at hz); (try simp only [World.size_setCell] at hz); (try simp only [World.size_drew] at hz); (try simp only [World.heap_drewN] at hz); (try have hs0 : w.heap.size < w'.heap.size := by omega); (try have hs1 : w.heap.size + 1 < w'.heap.size := by omega); (try have hs2 : w.heap.size + 2 < w'.heap.size := by omega)); (try have hsx : wr.heap.size < w'.heap.size := (by omega)); (try have hsw : w.heap.size < w'.heap.size := (by omega))) | ((go_at_call 16; (with_reducible refine (encodeR_any 16 dd 0 0 (s18) _).mono ?_); rintro e w' ⟨rfl, hb⟩; rw [HE.out]; obtain ⟨hz, hc, hf⟩ := bcell hb; (try simp only [World.size_alloc] at hz); (try simp only [World.size_setCell] at hz); (try simp only [World.size_drew] at hz); (try simp only [World.heap_drewN] at hz); (try have hs0 : w.heap.size < w'.heap.size := by omega); (try have hs1 : w.heap.size + 1 < w'.heap.size := by omega); (try have hs2 : w.heap.size + 2 < w'.heap.size := by omega)); (try have hsx : wr.heap.size < w'.heap.size := (by omega)); (try have hsw : w.heap.size < w'.heap.size := (by omega))))
            have hB := HB.out
            exact ⟨⟨17, by omega, by omega, rfl, (by repeat (first | (with_reducible exact Below.refl _ _) | (with_reducible assumption) | (with_reducible refine bthen (by with_reducible assumption) ?_) | (with_reducible refine balloc _ ?_) | (with_reducible refine bdrewN _ ?_) | (with_reducible refine bdrew ?_) | (with_reducible refine bset (by first | exact Nat.le_refl _ | (dsimp only; omega)) ?_))), next_none HNO.out HN.out⟩, by simp [intOf]⟩
      · rcases cand_enc 17 x 0 0 0 (0) rfl rfl rfl rfl (by omega) (by omega) with ⟨hA, hE⟩ | ⟨hA, u, e, hE, hue⟩
        · have HA := Lib.hid hA
          have HE := Lib.hid hE
          clear hA hE
          go_wp2_with (first | ((go_at_call 16; (with_reducible refine (encodeR_any 17 0 0 0 (0) _).mono ?_); rintro e w' ⟨rfl, hb⟩; rw [HE.out]; obtain ⟨hz, hc, hf⟩ := bcell hb; (try simp only [World.size_alloc] at hz); (try simp only [World.size_setCell] at hz); (try simp only [World.size_drew] at hz); (try simp only [World.heap_drewN] at hz); (try have hs0 : w.heap.size < w'.heap.size := by omega); (try have hs1 : w.heap.size + 1 < w'.heap.size := by omega); (try have hs2 : w.heap.size + 2 < w'.heap.size := by omega)); (try have hsx : wr.heap.size < w'.heap.size := (by omega)); (try have hsw : w.heap.size < w'.heap.size := (by omega))))
          have hBx := HBx.out
          exact bodyPost_ret (v := .agg #[.int .i8 17, .int .i8 0, .int .i8 0, .int .i8 0, .int .i64 (0)]) (by simp [results, Tryd.results13, go_sem, *]) rfl ⟨17, 0, 0, 0, (0), rfl, .inl HA.out, (by repeat (first | (with_reducible exact Below.refl _ _) | (with_reducible assumption) | (with_reducible refine bthen (by with_reducible assumption) ?_) | (with_reducible refine balloc _ ?_) | (with_reducible refine bdrewN _ ?_) | (with_reducible refine bdrew ?_) | (with_reducible refine bset (by first | exact Nat.le_refl _ | (dsimp only; omega)) ?_)))⟩
        · have HE := Lib.hid hE
          have HN := Lib.hid hA
          clear hA hE
          rcases hue with hue | ⟨rfl, hue⟩
          all_goals
            go_wp2_with (first | ((go_at_call 16; (with_reducible refine (encodeR_any 17 0 0 0 (0) _).mono ?_); rintro e w' ⟨rfl, hb⟩; rw [HE.out]; obtain ⟨hz, hc, hf⟩ := bcell hb; (try simp only [World.size_alloc] at hz); (try simp only [World.size_setCell] at hz); (try simp only [World.size_drew] at hz); (try simp only [World.heap_drewN] at hz); (try have hs0 : w.heap.size < w'.heap.size := by omega); (try have hs1 : w.heap.size + 1 < w'.heap.size := by omega); (try have hs2 : w.heap.size + 2 < w'.heap.size := by omega)); (try have hsx : wr.heap.size < w'.heap.size := (by omega)); (try have hsw : w.heap.size < w'.heap.size := (by omega))))
            have hB := HB.out
            exact ⟨⟨18, by omega, by omega, rfl, (by repeat (first | (with_reducible exact Below.refl _ _) | (with_reducible assumption) | (with_reducible refine bthen (by with_reducible assumption) ?_) | (with_reducible refine balloc _ ?_) | (with_reducible refine bdrewN _ ?_) | (with_reducible refine bdrew ?_) | (with_reducible refine bset (by first | exact Nat.le_refl _ | (dsimp only; omega)) ?_))), next_none HNO.out HN.out⟩, by simp [intOf]⟩
    · obtain rfl : k = 18 := by omega
      have hno := opAcc_none HNO.out
      have HN2 := Lib.hid hno
      have HBx : Hid (Below w.heap.size w wr) := Lib.hid (HB1.out.trans (HB.out.mono (by omega)))
      clear hno
      go_wp2
      have hBx := HBx.out
      exact bodyPost_ret (v := .agg #[.int .i8 18, .int .i8 0, .int .i8 0, .int .i8 0, .int .i64 0]) (by simp [results, Tryd.results13, go_sem, *]) rfl ⟨18, 0, 0, 0, 0, rfl, .inr ⟨⟨rfl, rfl, rfl, rfl, rfl⟩, HN2.out⟩, (by repeat (first | (with_reducible exact Below.refl _ _) | (with_reducible assumption) | (with_reducible refine bthen (by with_reducible assumption) ?_) | (with_reducible refine balloc _ ?_) | (with_reducible refine bdrewN _ ?_) | (with_reducible refine bdrew ?_) | (with_reducible refine bset (by first | exact Nat.le_refl _ | (dsimp only; omega)) ?_)))⟩
end Go.Proofs.YtailocbophkmmaaDoor
