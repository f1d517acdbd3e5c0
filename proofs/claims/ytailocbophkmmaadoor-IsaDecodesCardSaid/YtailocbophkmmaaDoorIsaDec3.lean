/-
  Package isa: Decode's walk.
-/
import Derived.Test.YtailocbophkmmaaDoorIsaDec2
namespace Go.Proofs.YtailocbophkmmaaDoor
open Go.RowKit FP

def DecIs (x op d n m imm : Int) : Prop := Acc x op d n m imm ∨ ((op = 18 ∧ d = 0 ∧ n = 0 ∧ m = 0 ∧ imm = 0) ∧ ∀ o a b c e, ¬ Acc x o a b c e)
theorem decIs_uniq {x op d n m imm op' d' n' m' imm' : Int} (h : DecIs x op d n m imm) (h' : DecIs x op' d' n' m' imm') : op = op' ∧ d = d' ∧ n = n' ∧ m = m' ∧ imm = imm' := by
  rcases h with h | ⟨⟨rfl, rfl, rfl, rfl, rfl⟩, h⟩ <;> rcases h' with h' | ⟨⟨rfl, rfl, rfl, rfl, rfl⟩, h'⟩
  · exact acc_uniq h h'
  · exact absurd h (h' _ _ _ _ _)
  · exact absurd h' (h _ _ _ _ _)
  · exact ⟨rfl, rfl, rfl, rfl, rfl⟩
theorem rowImm_bd (j : Nat) (x : Int) (h0 : 0 ≤ x) (h1 : x < 4294967296) : -9223372036854775808 ≤ rowImm j x ∧ rowImm j x ≤ 9223372036854775807 := by
  unfold rowImm immOf sgnI
  repeat' split
  all_goals omega
set_option maxRecDepth 100000 in
set_option maxHeartbeats 2000000 in
theorem decodeI_any (x : Int) (w : World) (h0 : 0 ≤ x) (h1 : x < 4294967296) (hS : Shapes w) (hW : Words w) (hM : Masks w) :
    Calls Tryd.prog 12 #[.int .u32 x] w fun e w' => ∃ op d n m imm, e = .returned (.agg #[.int .i8 op, .int .i8 d, .int .i8 n, .int .i8 m, .int .i64 imm]) ∧ DecIs x op d n m imm ∧ Below w.heap.size w w' := by
  have g1 : 1 < w.heap.size := World.block_lt_of_cell? w _ (hW 0 (by omega))
  have g4 : 4 < w.heap.size := World.block_lt_of_cell? w _ (hM 0 (by omega))
  obtain ⟨w1, hw1⟩ : ∃ w1, (w.alloc (.cells #[.int .i8 0, .int .i8 0, .int .i8 0, .int .i8 0, .int .i64 0] 36)).alloc (.cells #[.int .u32 0, .int .i32 0, .int .u32 0, .slice none 0 0] 74) = w1 := ⟨_, rfl⟩
  have hB1 : Below w.heap.size w w1 := by rw [← hw1]; exact (by repeat (first | (with_reducible exact Below.refl _ _) | (with_reducible assumption) | (with_reducible refine bthen (by with_reducible assumption) ?_) | (with_reducible refine balloc _ ?_) | (with_reducible refine bdrewN _ ?_) | (with_reducible refine bdrew ?_) | (with_reducible refine bset (by first | exact Nat.le_refl _ | (dsimp only; omega)) ?_)))
  have hs1 : w1.heap.size = w.heap.size + 2 := by rw [← hw1]; simp
  have hr1 : w1.heap[w.heap.size]? = some (.cells #[.int .i8 0, .int .i8 0, .int .i8 0, .int .i8 0, .int .i64 0] 36 (0, 0)) := by rw [← hw1]; exact blk_alloc (blk_new _ _ rfl) _
  have hd1 : w1.heap[w.heap.size + 1]? = some (.cells #[.int .u32 0, .int .i32 0, .int .u32 0, .slice none 0 0] 74 (0, 0)) := by rw [← hw1]; exact blk_new _ _ (by simp)
  have hW1 : Words w1 := hW.below hB1
  have hM1 : Masks w1 := hM.below hB1
  have ht := Lib.hid (table_any (w.heap.size + 1) (w.heap.size + 1) (.int .u32 0) (.slice none 0 0) w1 (by omega) hW1 hM1 (by omega) (by omega) (by omega) hd1)
  have HB1 := Lib.hid hB1
  have HR1 := Lib.hid hr1
  have HS := Lib.hid hS
  have HW := Lib.hid hW
  clear hW1 hM1 hW hM hS hB1 hr1 hd1
  go_enter Tryd.func12, Tryd.ntmps12
  go_wp2_with (go_at_call 30; (try rw [hw1]); (with_reducible refine ht.out.mono ?_); rintro e w2 ⟨b, rfl, hT⟩; obtain ⟨g, cap, rfl, hg, hgl, hrow⟩ := row_fact hT; have HT := Lib.hid hT; have HROW := Lib.hid hrow; clear hT hrow)
  obtain ⟨hT1, hT2, -⟩ := HT.out
  have hres := blk_below hT1 (by omega) HR1.out
  have hBw2 : Below w.heap.size w w2 := HB1.out.trans (hT1.mono (by omega))
  have HBW2 := Lib.hid hBw2
  have HRES := Lib.hid hres
  have hs2 : w.heap.size < w2.heap.size := by omega
  clear hT1 hBw2 hres
  go_loopw [11] (fun i wr => ∃ j : Nat, j ≤ 19 ∧ i = .int .i64 j ∧ Below w2.heap.size w2 wr ∧ ∀ i, i < j → ¬ RowAcc i x) (fun i _ => 19 - (intOf i).toNat)
  case atStart => exact ⟨0, by omega, rfl, Below.refl _ _, fun i hi => by omega⟩
  case round =>
    obtain ⟨j, hj, rfl, hB, hno⟩ := hrel
    have hsr := hB.size
    have HB := Lib.hid hB
    have HNO := Lib.hid hno
    by_cases hj19 : j < 19
    · obtain ⟨hm, hw, F, c, hf, hF1, hF2⟩ := HROW.out j hj19
      have km := (hB.cell (p := ⟨g, 3 * j, none⟩) hgl).trans hm
      have kw := (hB.cell (p := ⟨g, 3 * j + 1, none⟩) hgl).trans hw
      have kf := (hB.cell (p := ⟨g, 3 * j + 2, none⟩) hgl).trans hf
      have km' : wr.cell? ⟨g, j * 3, none⟩ = some (.int .u32 (rowMask j)) := by rw [Nat.mul_comm]; exact km
      have kw' : wr.cell? ⟨g, j * 3 + 1, none⟩ = some (.int .u32 (rowWord j)) := by rw [Nat.mul_comm]; exact kw
      have kf' : wr.cell? ⟨g, j * 3 + 2, none⟩ = some (.func (.func F) #[] #[.pointer (some ⟨c, 0, none⟩)]) := by rw [Nat.mul_comm]; exact kf
      have hgr : g < wr.heap.size := by omega
      have j0 : (0 : Int) ≤ (j : Int) := by omega
      have j1 : (j : Int) < 19 := by omega
      have HF2 := Lib.hid hF2
      clear hB hno hm hw hf km kw kf hF2
      by_cases hmask : bits .and .u32 x (rowMask j) = rowWord j
      · have hmf : (bits .and .u32 x (rowMask j) != rowWord j) = false := by simpa using hmask
        by_cases hA : RowAcc j x
        · have HA := Lib.hid hA
          have HE := Lib.hid ((encV_t hA.2.1 hA.2.2.1).trans (show _ = Value.tuple #[.int .u32 x, .int .i64 0] by rw [hA.2.2.2]))
          obtain ⟨kr1, kr2⟩ := blkc (blk_below HB.out hs2 HRES.out)
          have hrl : w.heap.size < wr.heap.size := by omega
          have hrl1 : w.heap.size < wr.heap.size + 1 := by omega
          have HX := Lib.hid hA.2.2.2
          obtain ⟨i0, i1⟩ := rowImm_bd j x h0 h1
          have hxx : x < 18446744073709551616 := by omega
          have HBx : Hid (Below w.heap.size w wr) := Lib.hid (HBW2.out.trans (HB.out.mono (by omega)))
          have hmk := hmask
          clear hmask hA
          go_wp2_with (first | (with_reducible refine (HF2.out _ x (by have hB := HB.out; exact (by repeat (first | (with_reducible exact Below.refl _ _) | (with_reducible assumption) | (with_reducible refine bthen (by with_reducible assumption) ?_) | (with_reducible refine balloc _ ?_) | (with_reducible refine bdrewN _ ?_) | (with_reducible refine bdrew ?_) | (with_reducible refine bset (by first | exact Nat.le_refl _ | (dsimp only; omega)) ?_)))) h0 hxx).mono ?_; rintro e w3 ⟨rfl, hb⟩; unfold rowV; have hw3 : w.heap.size < w3.heap.size := (by have := hb.size; simp only [World.size_alloc] at this; omega); have hw31 : w.heap.size < w3.heap.size + 1 := (by omega); obtain ⟨hz, hc, hf⟩ := bcell hb; (try simp only [World.size_alloc, World.size_drew, World.heap_drewN, World.size_setCell] at hz); (try have hs0 : w.heap.size < w'.heap.size := by omega); (try have hs1 : w.heap.size + 1 < w'.heap.size := by omega); (try have hs2 : w.heap.size + 2 < w'.heap.size := by omega)) | (go_at_call 15; (with_reducible refine (encodeI_any _ _ _ _ _ _ (HS.out.below (by have hBx := HBx.out; exact (by repeat (first | (with_reducible exact Below.refl _ _) | (with_reducible assumption) | (with_reducible refine bthen (by with_reducible assumption) ?_) | (with_reducible refine balloc _ ?_) | (with_reducible refine bdrewN _ ?_) | (with_reducible refine bdrew ?_) | (with_reducible refine bset (by first | exact Nat.le_refl _ | (dsimp only; omega)) ?_))))) (HW.out.below (by have hBx := HBx.out; exact (by repeat (first | (with_reducible exact Below.refl _ _) | (with_reducible assumption) | (with_reducible refine bthen (by with_reducible assumption) ?_) | (with_reducible refine balloc _ ?_) | (with_reducible refine bdrewN _ ?_) | (with_reducible refine bdrew ?_) | (with_reducible refine bset (by first | exact Nat.le_refl _ | (dsimp only; omega)) ?_))))) i0 i1).mono ?_); rintro e w' ⟨rfl, hb⟩; rw [HE.out]; obtain ⟨hz, hc, hf⟩ := bcell hb; (try simp only [World.size_alloc, World.size_drew, World.heap_drewN, World.size_setCell] at hz); (try have hs0 : w.heap.size < w'.heap.size := by omega); (try have hs1 : w.heap.size + 1 < w'.heap.size := by omega); (try have hs2 : w.heap.size + 2 < w'.heap.size := by omega)))
          have hBx := HBx.out
          exact bodyPost_ret (v := .agg #[.int .i8 (rowOp j), .int .i8 (dOf (rowOp j) x), .int .i8 (nOf (rowOp j) x), .int .i8 (mOf (rowOp j) x), .int .i64 (rowImm j x)]) (by simp [results, Tryd.results12, go_sem, *]) rfl ⟨_, _, _, _, _, rfl, .inl HA.out.2, (by repeat (first | (with_reducible exact Below.refl _ _) | (with_reducible assumption) | (with_reducible refine bthen (by with_reducible assumption) ?_) | (with_reducible refine balloc _ ?_) | (with_reducible refine bdrewN _ ?_) | (with_reducible refine bdrew ?_) | (with_reducible refine bset (by first | exact Nat.le_refl _ | (dsimp only; omega)) ?_)))⟩
        · obtain ⟨i0, i1⟩ := rowImm_bd j x h0 h1
          have hxx : x < 18446744073709551616 := by omega
          have HBx : Hid (Below w.heap.size w wr) := Lib.hid (HBW2.out.trans (HB.out.mono (by omega)))
          have hno' : ∀ i, i < j + 1 → ¬ RowAcc i x := fun i hi => by
            by_cases hij : i = j
            · subst hij; exact hA
            · exact HNO.out i (by omega)
          have HN' := Lib.hid hno'
          have HAA := Lib.hid hA
          have hmk := hmask
          clear hno' hA hmask
          by_cases hok : okB (rowOp j) (dOf (rowOp j) x) (nOf (rowOp j) x) (mOf (rowOp j) x) (rowImm j x) = true ∧ (rowOp j : Int) ≠ 18
          · have HE := Lib.hid (encV_t hok.1 hok.2)
            have hne : (encI (rowOp j) (dOf (rowOp j) x) (nOf (rowOp j) x) (mOf (rowOp j) x) (rowImm j x) == x) = false := by
              rw [beq_eq_false_iff_ne]; exact fun h => HAA.out ⟨hmk, hok.1, hok.2, h⟩
            clear hok
            go_wp2_with (first | (with_reducible refine (HF2.out _ x (by have hB := HB.out; exact (by repeat (first | (with_reducible exact Below.refl _ _) | (with_reducible assumption) | (with_reducible refine bthen (by with_reducible assumption) ?_) | (with_reducible refine balloc _ ?_) | (with_reducible refine bdrewN _ ?_) | (with_reducible refine bdrew ?_) | (with_reducible refine bset (by first | exact Nat.le_refl _ | (dsimp only; omega)) ?_)))) h0 hxx).mono ?_; rintro e w3 ⟨rfl, hb⟩; unfold rowV; obtain ⟨hz, hc, hf⟩ := bcell hb; (try simp only [World.size_alloc, World.size_drew, World.heap_drewN, World.size_setCell] at hz); (try have hs0 : w.heap.size < w'.heap.size := by omega); (try have hs1 : w.heap.size + 1 < w'.heap.size := by omega); (try have hs2 : w.heap.size + 2 < w'.heap.size := by omega)) | (go_at_call 15; (with_reducible refine (encodeI_any _ _ _ _ _ _ (HS.out.below (by have hBx := HBx.out; exact (by repeat (first | (with_reducible exact Below.refl _ _) | (with_reducible assumption) | (with_reducible refine bthen (by with_reducible assumption) ?_) | (with_reducible refine balloc _ ?_) | (with_reducible refine bdrewN _ ?_) | (with_reducible refine bdrew ?_) | (with_reducible refine bset (by first | exact Nat.le_refl _ | (dsimp only; omega)) ?_))))) (HW.out.below (by have hBx := HBx.out; exact (by repeat (first | (with_reducible exact Below.refl _ _) | (with_reducible assumption) | (with_reducible refine bthen (by with_reducible assumption) ?_) | (with_reducible refine balloc _ ?_) | (with_reducible refine bdrewN _ ?_) | (with_reducible refine bdrew ?_) | (with_reducible refine bset (by first | exact Nat.le_refl _ | (dsimp only; omega)) ?_))))) i0 i1).mono ?_); rintro e w' ⟨rfl, hb⟩; rw [HE.out]; obtain ⟨hz, hc, hf⟩ := bcell hb; (try simp only [World.size_alloc, World.size_drew, World.heap_drewN, World.size_setCell] at hz); (try have hs0 : w.heap.size < w'.heap.size := by omega); (try have hs1 : w.heap.size + 1 < w'.heap.size := by omega); (try have hs2 : w.heap.size + 2 < w'.heap.size := by omega)))
            all_goals (have hB := HB.out; exact ⟨⟨j + 1, by omega, by simp, (by repeat (first | (with_reducible exact Below.refl _ _) | (with_reducible assumption) | (with_reducible refine bthen (by with_reducible assumption) ?_) | (with_reducible refine balloc _ ?_) | (with_reducible refine bdrewN _ ?_) | (with_reducible refine bdrew ?_) | (with_reducible refine bset (by first | exact Nat.le_refl _ | (dsimp only; omega)) ?_))), HN'.out⟩, by simp [intOf]; omega⟩)
          · have HE := Lib.hid (encV_f (op := rowOp j) (d := dOf (rowOp j) x) (n := nOf (rowOp j) x) (m := mOf (rowOp j) x) (imm := rowImm j x) (by
              by_cases h8 : (rowOp j : Int) = 18
              · exact .inr h8
              · exact .inl (by simpa using fun h => hok ⟨h, h8⟩)))
            clear hok
            go_wp2_with (first | (with_reducible refine (HF2.out _ x (by have hB := HB.out; exact (by repeat (first | (with_reducible exact Below.refl _ _) | (with_reducible assumption) | (with_reducible refine bthen (by with_reducible assumption) ?_) | (with_reducible refine balloc _ ?_) | (with_reducible refine bdrewN _ ?_) | (with_reducible refine bdrew ?_) | (with_reducible refine bset (by first | exact Nat.le_refl _ | (dsimp only; omega)) ?_)))) h0 hxx).mono ?_; rintro e w3 ⟨rfl, hb⟩; unfold rowV; obtain ⟨hz, hc, hf⟩ := bcell hb; (try simp only [World.size_alloc, World.size_drew, World.heap_drewN, World.size_setCell] at hz); (try have hs0 : w.heap.size < w'.heap.size := by omega); (try have hs1 : w.heap.size + 1 < w'.heap.size := by omega); (try have hs2 : w.heap.size + 2 < w'.heap.size := by omega)) | (go_at_call 15; (with_reducible refine (encodeI_any _ _ _ _ _ _ (HS.out.below (by have hBx := HBx.out; exact (by repeat (first | (with_reducible exact Below.refl _ _) | (with_reducible assumption) | (with_reducible refine bthen (by with_reducible assumption) ?_) | (with_reducible refine balloc _ ?_) | (with_reducible refine bdrewN _ ?_) | (with_reducible refine bdrew ?_) | (with_reducible refine bset (by first | exact Nat.le_refl _ | (dsimp only; omega)) ?_))))) (HW.out.below (by have hBx := HBx.out; exact (by repeat (first | (with_reducible exact Below.refl _ _) | (with_reducible assumption) | (with_reducible refine bthen (by with_reducible assumption) ?_) | (with_reducible refine balloc _ ?_) | (with_reducible refine bdrewN _ ?_) | (with_reducible refine bdrew ?_) | (with_reducible refine bset (by first | exact Nat.le_refl _ | (dsimp only; omega)) ?_))))) i0 i1).mono ?_); rintro e w' ⟨rfl, hb⟩; rw [HE.out]; obtain ⟨hz, hc, hf⟩ := bcell hb; (try simp only [World.size_alloc, World.size_drew, World.heap_drewN, World.size_setCell] at hz); (try have hs0 : w.heap.size < w'.heap.size := by omega); (try have hs1 : w.heap.size + 1 < w'.heap.size := by omega); (try have hs2 : w.heap.size + 2 < w'.heap.size := by omega)))
            all_goals (have hB := HB.out; exact ⟨⟨j + 1, by omega, by simp, (by repeat (first | (with_reducible exact Below.refl _ _) | (with_reducible assumption) | (with_reducible refine bthen (by with_reducible assumption) ?_) | (with_reducible refine balloc _ ?_) | (with_reducible refine bdrewN _ ?_) | (with_reducible refine bdrew ?_) | (with_reducible refine bset (by first | exact Nat.le_refl _ | (dsimp only; omega)) ?_))), HN'.out⟩, by simp [intOf]; omega⟩)
      · have hmf : (bits .and .u32 x (rowMask j) != rowWord j) = true := by simpa using hmask
        go_wp2
        refine ⟨⟨j + 1, by omega, by simp, HB.out.alloc hsr _, fun i hi => ?_⟩, by simp [intOf]; omega⟩
        by_cases hij : i = j
        · subst hij; exact fun hA => hmask hA.1
        · exact HNO.out i (by omega)
    · obtain rfl : j = 19 := by omega
      have hno := dec_none hno
      have HN2 := Lib.hid hno
      have kr := (blkc (blk_below hB hs2 HRES.out))
      obtain ⟨kr1, kr2⟩ := kr
      have hrl : w.heap.size < wr.heap.size := by omega
      clear hB hno
      go_wp2
      have hBx : Below w.heap.size w wr := HBW2.out.trans (HB.out.mono (by omega))
      exact bodyPost_ret (v := .agg #[.int .i8 18, .int .i8 0, .int .i8 0, .int .i8 0, .int .i64 0]) (by simp [results, Tryd.results12, go_sem, *]) rfl ⟨18, 0, 0, 0, 0, rfl, .inr ⟨⟨rfl, rfl, rfl, rfl, rfl⟩, HN2.out⟩, (by repeat (first | (with_reducible exact Below.refl _ _) | (with_reducible assumption) | (with_reducible refine bthen (by with_reducible assumption) ?_) | (with_reducible refine balloc _ ?_) | (with_reducible refine bdrewN _ ?_) | (with_reducible refine bdrew ?_) | (with_reducible refine bset (by first | exact Nat.le_refl _ | (dsimp only; omega)) ?_)))⟩
end Go.Proofs.YtailocbophkmmaaDoor
