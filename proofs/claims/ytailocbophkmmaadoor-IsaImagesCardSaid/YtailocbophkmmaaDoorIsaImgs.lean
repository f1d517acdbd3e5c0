/-
  The law IsaImages: its walk.
-/
import Derived.Test.YtailocbophkmmaaDoorImages
import Derived.Test.YtailocbophkmmaaDoorIsaWakes
namespace Go.Proofs.YtailocbophkmmaaDoor
open Go.RowKit FP

theorem owns_form {w : World} {base : Nat} {e : TypeId} {v : Value} {n : Nat} {xs : List Value} (h : w.ownsRow base e 1 v n xs) : ∃ ad cap, v = .slice ad n cap ∧ ∀ i, i < n → ∃ g, ad = some ⟨g, 0, none⟩ ∧ g < w.heap.size ∧ w.cell? ⟨g, i, none⟩ = xs[i]? := by
  by_cases hn : 0 < n
  · obtain ⟨g, cap, rfl, hg1, hg2⟩ := h.form hn
    exact ⟨_, _, rfl, fun i hi => ⟨g, rfl, hg2, h.cellAt i (by have := h.1; omega)⟩⟩
  · obtain rfl : n = 0 := by omega
    rcases h.2 with ⟨rfl, _⟩ | ⟨g, cap, cur, rfl, _⟩
    · exact ⟨_, _, rfl, fun i hi => by omega⟩
    · exact ⟨_, _, rfl, fun i hi => by omega⟩
theorem wordsE_at (F : Nat → Nat → Int) (n i : Nat) (hi : i < n) : (wordsE F n)[i]? = some (.int .u32 (wordE F i)) := by simp [wordsE, hi]
/-- What Image hands back where all may be. -/
def ImgOk (F : Nat → Nat → Int) (len : Nat) (w : World) (e : Ending) (w' : World) : Prop :=
  ∃ ad cap, e = .returned (.tuple #[.slice ad len cap, .int .i64 0]) ∧ Below w.heap.size w w' ∧ ∀ i, i < len → ∃ g, ad = some ⟨g, 0, none⟩ ∧ g < w'.heap.size ∧ w'.cell? ⟨g, i, none⟩ = some (.int .u32 (wordE F i))
theorem img_ok {F : Nat → Nat → Int} {len : Nat} {w : World} {e : Ending} {w' : World} (h : ImgPost F len w e w') (hall : ∀ i, i < len → okE F i = true) : ImgOk F len w e w' := by
  obtain ⟨hb, ⟨_, v, rfl, hown⟩ | ⟨⟨i, hi, hn⟩, _⟩⟩ := h
  · obtain ⟨ad, cap, rfl, hc⟩ := owns_form hown
    refine ⟨ad, cap, rfl, hb, fun i hi => ?_⟩
    obtain ⟨g, h1, h2, h3⟩ := hc i hi
    exact ⟨g, h1, h2, h3.trans (wordsE_at F len i hi)⟩
  · rw [hall i hi] at hn; cases hn
theorem img_no {F : Nat → Nat → Int} {len : Nat} {w : World} {e : Ending} {w' : World} (h : ImgPost F len w e w') (hall : ¬ ∀ i, i < len → okE F i = true) : e = .returned (.tuple #[.slice none 0 0, .int .i64 60]) ∧ Below w.heap.size w w' := by
  obtain ⟨hb, ⟨h1, _⟩ | ⟨_, rfl⟩⟩ := h
  · exact absurd h1 hall
  · exact ⟨rfl, hb⟩
theorem InsAt.below {w w' : World} {ad : Option Addr} {len : Nat} {F : Nat → Nat → Int} (h : InsAt w ad len F) (hb : Below w.heap.size w w') : InsAt w' ad len F := fun i hi => by
  obtain ⟨b, off, e, c0, c1, c2, c3, c4, c5⟩ := h i hi
  have hbw : b < w.heap.size := World.block_lt_of_cell? w _ c0
  exact ⟨b, off, e, (hb.cell (p := ⟨b, _, none⟩) hbw).trans c0, (hb.cell (p := ⟨b, _, none⟩) hbw).trans c1, (hb.cell (p := ⟨b, _, none⟩) hbw).trans c2, (hb.cell (p := ⟨b, _, none⟩) hbw).trans c3, (hb.cell (p := ⟨b, _, none⟩) hbw).trans c4, c5⟩
set_option maxRecDepth 100000 in
set_option maxHeartbeats 4000000 in
theorem images_any (F : Nat → Nat → Int) (ad : Option Addr) (len cap : Nat) (w : World) (hln : len ≤ 9223372036854775807) (hI : InsAt w ad len F) (hS : Shapes w) (hW : Words w) (hM : Masks w) (hN : NameMov w) :
    Calls Tryd.prog 7 #[.slice ad len cap] w fun e w' => e = .returned (.bool true) ∧ Below w.heap.size w w' := by
  have HS := Lib.hid hS
  have HW := Lib.hid hW
  have HM := Lib.hid hM
  have HN := Lib.hid hN
  have HI := Lib.hid hI
  clear hS hW hM hN hI
  by_cases hl : len ≤ 1000
  · by_cases hall : ∀ i, i < len → okE F i = true
    · have HA := Lib.hid hall
      clear hall
      go_enter Tryd.func7, Tryd.ntmps7
      go_wp2_with (first | (go_at_call 20; (with_reducible refine (imageI_any F ad len cap _ hl (HI.out.below (by repeat (first | (with_reducible exact Below.refl _ _) | (with_reducible assumption) | (with_reducible refine bthen (by with_reducible assumption) ?_) | (with_reducible refine balloc _ ?_) | (with_reducible refine bdrewN _ ?_) | (with_reducible refine bdrew ?_) | (with_reducible refine bset (by first | exact Nat.le_refl _ | (dsimp only; omega)) ?_)))) (HS.out.below (by repeat (first | (with_reducible exact Below.refl _ _) | (with_reducible assumption) | (with_reducible refine bthen (by with_reducible assumption) ?_) | (with_reducible refine balloc _ ?_) | (with_reducible refine bdrewN _ ?_) | (with_reducible refine bdrew ?_) | (with_reducible refine bset (by first | exact Nat.le_refl _ | (dsimp only; omega)) ?_)))) (HW.out.below (by repeat (first | (with_reducible exact Below.refl _ _) | (with_reducible assumption) | (with_reducible refine bthen (by with_reducible assumption) ?_) | (with_reducible refine balloc _ ?_) | (with_reducible refine bdrewN _ ?_) | (with_reducible refine bdrew ?_) | (with_reducible refine bset (by first | exact Nat.le_refl _ | (dsimp only; omega)) ?_))))).mono ?_); intro e w1 hp; obtain ⟨ad1, cap1, rfl, hb1, hc1⟩ := img_ok hp HA.out; clear hp; have HC1 := Lib.hid hc1; clear hc1) | (go_at_call 21; (with_reducible refine (imageR_any F ad len cap _ hl (HI.out.below (by repeat (first | (with_reducible exact Below.refl _ _) | (with_reducible assumption) | (with_reducible refine bthen (by with_reducible assumption) ?_) | (with_reducible refine balloc _ ?_) | (with_reducible refine bdrewN _ ?_) | (with_reducible refine bdrew ?_) | (with_reducible refine bset (by first | exact Nat.le_refl _ | (dsimp only; omega)) ?_))))).mono ?_); intro e w2 hp; obtain ⟨ad2, cap2, rfl, hb2, hc2⟩ := img_ok hp HA.out; clear hp; have HC2 := Lib.hid hc2; clear hc2))
      have hb12 : Below w1.heap.size w1 w2 := hb2
      have HC3 : Hid (∀ i, i < len → ∃ g, ad1 = some ⟨g, 0, none⟩ ∧ g < w2.heap.size ∧ w2.cell? ⟨g, i, none⟩ = some (.int .u32 (wordE F i))) := Lib.hid (fun i hi => by
        obtain ⟨g, h1, h2, h3⟩ := HC1.out i hi
        exact ⟨g, h1, Nat.lt_of_lt_of_le h2 hb12.size, (hb12.cell (p := ⟨g, i, none⟩) h2).trans h3⟩)
      have hBW : Below w.heap.size w w2 := (by repeat (first | (with_reducible exact Below.refl _ _) | (with_reducible assumption) | (with_reducible refine bthen (by with_reducible assumption) ?_) | (with_reducible refine balloc _ ?_) | (with_reducible refine bdrewN _ ?_) | (with_reducible refine bdrew ?_) | (with_reducible refine bset (by first | exact Nat.le_refl _ | (dsimp only; omega)) ?_)))
      have HBW := Lib.hid hBW
      clear hb12 hBW hb1 hb2 HC1
      go_loopw [7] (fun i wr => ∃ j : Nat, j ≤ len ∧ i = .int .i64 j ∧ Below w2.heap.size w2 wr) (fun i _ => len - (intOf i).toNat)
      case atStart => exact ⟨0, by omega, rfl, Below.refl _ _⟩
      case round =>
        obtain ⟨j, hj, rfl, hB⟩ := hrel
        have hsr := hB.size
        have HB := Lib.hid hB
        clear hB
        by_cases hjl : j < len
        · obtain ⟨g1, rfl, l1, c1⟩ := HC3.out j hjl
          obtain ⟨g2, rfl, l2, c2⟩ := HC2.out j hjl
          have k1 := (HB.out.cell (p := ⟨g1, j, none⟩) l1).trans c1
          have k2 := (HB.out.cell (p := ⟨g2, j, none⟩) l2).trans c2
          have b0 : (0 : Int) ≤ (j : Int) := by omega
          have b1 : (j : Int) < (len : Int) := by omega
          clear c1 c2
          go_wp2
          go_quiet (fail)
          go_wp2
          have hB := HB.out
          exact ⟨⟨j + 1, by omega, by simp, (by repeat (first | (with_reducible exact Below.refl _ _) | (with_reducible assumption) | (with_reducible refine bthen (by with_reducible assumption) ?_) | (with_reducible refine balloc _ ?_) | (with_reducible refine bdrewN _ ?_) | (with_reducible refine bdrew ?_) | (with_reducible refine bset (by first | exact Nat.le_refl _ | (dsimp only; omega)) ?_)))⟩, by simp [intOf]; omega⟩
        · obtain rfl : j = len := by omega
          have hB := HB.out
          have hBW := HBW.out
          go_wp2_with (go_at_call 14; (with_reducible refine (wakes_any _ (HS.out.below (by repeat (first | (with_reducible exact Below.refl _ _) | (with_reducible assumption) | (with_reducible refine bthen (by with_reducible assumption) ?_) | (with_reducible refine balloc _ ?_) | (with_reducible refine bdrewN _ ?_) | (with_reducible refine bdrew ?_) | (with_reducible refine bset (by first | exact Nat.le_refl _ | (dsimp only; omega)) ?_)))) (HW.out.below (by repeat (first | (with_reducible exact Below.refl _ _) | (with_reducible assumption) | (with_reducible refine bthen (by with_reducible assumption) ?_) | (with_reducible refine balloc _ ?_) | (with_reducible refine bdrewN _ ?_) | (with_reducible refine bdrew ?_) | (with_reducible refine bset (by first | exact Nat.le_refl _ | (dsimp only; omega)) ?_)))) (HM.out.below (by repeat (first | (with_reducible exact Below.refl _ _) | (with_reducible assumption) | (with_reducible refine bthen (by with_reducible assumption) ?_) | (with_reducible refine balloc _ ?_) | (with_reducible refine bdrewN _ ?_) | (with_reducible refine bdrew ?_) | (with_reducible refine bset (by first | exact Nat.le_refl _ | (dsimp only; omega)) ?_)))) (HN.out.below (by repeat (first | (with_reducible exact Below.refl _ _) | (with_reducible assumption) | (with_reducible refine bthen (by with_reducible assumption) ?_) | (with_reducible refine balloc _ ?_) | (with_reducible refine bdrewN _ ?_) | (with_reducible refine bdrew ?_) | (with_reducible refine bset (by first | exact Nat.le_refl _ | (dsimp only; omega)) ?_))))).mono ?_); rintro e w' ⟨rfl, hb⟩; obtain ⟨hz, hc, hf⟩ := bcell hb; (try simp only [World.size_alloc] at hz); (try simp only [World.size_setCell] at hz); (try simp only [World.size_drew] at hz); (try simp only [World.heap_drewN] at hz); (try have hs0 : w.heap.size < w'.heap.size := by omega); (try have hs1 : w.heap.size + 1 < w'.heap.size := by omega); (try have hs2 : w.heap.size + 2 < w'.heap.size := by omega))
          go_ret
          exact ⟨rfl, (by repeat (first | (with_reducible exact Below.refl _ _) | (with_reducible assumption) | (with_reducible refine bthen (by with_reducible assumption) ?_) | (with_reducible refine balloc _ ?_) | (with_reducible refine bdrewN _ ?_) | (with_reducible refine bdrew ?_) | (with_reducible refine bset (by first | exact Nat.le_refl _ | (dsimp only; omega)) ?_)))⟩
    · have HA := Lib.hid hall
      clear hall
      go_enter Tryd.func7, Tryd.ntmps7
      go_wp2_with (first | (go_at_call 20; (with_reducible refine (imageI_any F ad len cap _ hl (HI.out.below (by repeat (first | (with_reducible exact Below.refl _ _) | (with_reducible assumption) | (with_reducible refine bthen (by with_reducible assumption) ?_) | (with_reducible refine balloc _ ?_) | (with_reducible refine bdrewN _ ?_) | (with_reducible refine bdrew ?_) | (with_reducible refine bset (by first | exact Nat.le_refl _ | (dsimp only; omega)) ?_)))) (HS.out.below (by repeat (first | (with_reducible exact Below.refl _ _) | (with_reducible assumption) | (with_reducible refine bthen (by with_reducible assumption) ?_) | (with_reducible refine balloc _ ?_) | (with_reducible refine bdrewN _ ?_) | (with_reducible refine bdrew ?_) | (with_reducible refine bset (by first | exact Nat.le_refl _ | (dsimp only; omega)) ?_)))) (HW.out.below (by repeat (first | (with_reducible exact Below.refl _ _) | (with_reducible assumption) | (with_reducible refine bthen (by with_reducible assumption) ?_) | (with_reducible refine balloc _ ?_) | (with_reducible refine bdrewN _ ?_) | (with_reducible refine bdrew ?_) | (with_reducible refine bset (by first | exact Nat.le_refl _ | (dsimp only; omega)) ?_))))).mono ?_); intro e w' hp; obtain ⟨rfl, hb⟩ := img_no hp HA.out; clear hp; obtain ⟨hz, hc, hf⟩ := bcell hb; (try simp only [World.size_alloc] at hz); (try simp only [World.size_setCell] at hz); (try simp only [World.size_drew] at hz); (try simp only [World.heap_drewN] at hz); (try have hs0 : w.heap.size < w'.heap.size := by omega); (try have hs1 : w.heap.size + 1 < w'.heap.size := by omega); (try have hs2 : w.heap.size + 2 < w'.heap.size := by omega)) | (go_at_call 21; (with_reducible refine (imageR_any F ad len cap _ hl (HI.out.below (by repeat (first | (with_reducible exact Below.refl _ _) | (with_reducible assumption) | (with_reducible refine bthen (by with_reducible assumption) ?_) | (with_reducible refine balloc _ ?_) | (with_reducible refine bdrewN _ ?_) | (with_reducible refine bdrew ?_) | (with_reducible refine bset (by first | exact Nat.le_refl _ | (dsimp only; omega)) ?_))))).mono ?_); intro e w' hp; obtain ⟨rfl, hb⟩ := img_no hp HA.out; clear hp; obtain ⟨hz, hc, hf⟩ := bcell hb; (try simp only [World.size_alloc] at hz); (try simp only [World.size_setCell] at hz); (try simp only [World.size_drew] at hz); (try simp only [World.heap_drewN] at hz); (try have hs0 : w.heap.size < w'.heap.size := by omega); (try have hs1 : w.heap.size + 1 < w'.heap.size := by omega); (try have hs2 : w.heap.size + 2 < w'.heap.size := by omega)))
      obtain ⟨w2, hw2⟩ : ∃ w2, w2 = w' := ⟨_, rfl⟩
      subst hw2
      have hBW : Below w.heap.size w w2 := (by repeat (first | (with_reducible exact Below.refl _ _) | (with_reducible assumption) | (with_reducible refine bthen (by with_reducible assumption) ?_) | (with_reducible refine balloc _ ?_) | (with_reducible refine bdrewN _ ?_) | (with_reducible refine bdrew ?_) | (with_reducible refine bset (by first | exact Nat.le_refl _ | (dsimp only; omega)) ?_)))
      have HBW := Lib.hid hBW
      go_loopw [7] (fun i wr => i = .int .i64 0 ∧ wr = w2) (fun i _ => 0)
      case atStart => exact ⟨rfl, rfl⟩
      case round =>
        obtain ⟨rfl, rfl⟩ := hrel
        have hBW := HBW.out
        go_wp2_with (go_at_call 14; (with_reducible refine (wakes_any _ (HS.out.below (by repeat (first | (with_reducible exact Below.refl _ _) | (with_reducible assumption) | (with_reducible refine bthen (by with_reducible assumption) ?_) | (with_reducible refine balloc _ ?_) | (with_reducible refine bdrewN _ ?_) | (with_reducible refine bdrew ?_) | (with_reducible refine bset (by first | exact Nat.le_refl _ | (dsimp only; omega)) ?_)))) (HW.out.below (by repeat (first | (with_reducible exact Below.refl _ _) | (with_reducible assumption) | (with_reducible refine bthen (by with_reducible assumption) ?_) | (with_reducible refine balloc _ ?_) | (with_reducible refine bdrewN _ ?_) | (with_reducible refine bdrew ?_) | (with_reducible refine bset (by first | exact Nat.le_refl _ | (dsimp only; omega)) ?_)))) (HM.out.below (by repeat (first | (with_reducible exact Below.refl _ _) | (with_reducible assumption) | (with_reducible refine bthen (by with_reducible assumption) ?_) | (with_reducible refine balloc _ ?_) | (with_reducible refine bdrewN _ ?_) | (with_reducible refine bdrew ?_) | (with_reducible refine bset (by first | exact Nat.le_refl _ | (dsimp only; omega)) ?_)))) (HN.out.below (by repeat (first | (with_reducible exact Below.refl _ _) | (with_reducible assumption) | (with_reducible refine bthen (by with_reducible assumption) ?_) | (with_reducible refine balloc _ ?_) | (with_reducible refine bdrewN _ ?_) | (with_reducible refine bdrew ?_) | (with_reducible refine bset (by first | exact Nat.le_refl _ | (dsimp only; omega)) ?_))))).mono ?_); rintro e w' ⟨rfl, hb⟩; obtain ⟨hz, hc, hf⟩ := bcell hb; (try simp only [World.size_alloc] at hz); (try simp only [World.size_setCell] at hz); (try simp only [World.size_drew] at hz); (try simp only [World.heap_drewN] at hz); (try have hs0 : w.heap.size < w'.heap.size := by omega); (try have hs1 : w.heap.size + 1 < w'.heap.size := by omega); (try have hs2 : w.heap.size + 2 < w'.heap.size := by omega))
        go_ret
        exact ⟨rfl, (by repeat (first | (with_reducible exact Below.refl _ _) | (with_reducible assumption) | (with_reducible refine bthen (by with_reducible assumption) ?_) | (with_reducible refine balloc _ ?_) | (with_reducible refine bdrewN _ ?_) | (with_reducible refine bdrew ?_) | (with_reducible refine bset (by first | exact Nat.le_refl _ | (dsimp only; omega)) ?_)))⟩
  · have hgt : (1000 : Int) < len := by omega
    go_enter Tryd.func7, Tryd.ntmps7
    go_wp2_with (go_at_call 14; (with_reducible refine (wakes_any _ (HS.out.below (by repeat (first | (with_reducible exact Below.refl _ _) | (with_reducible assumption) | (with_reducible refine bthen (by with_reducible assumption) ?_) | (with_reducible refine balloc _ ?_) | (with_reducible refine bdrewN _ ?_) | (with_reducible refine bdrew ?_) | (with_reducible refine bset (by first | exact Nat.le_refl _ | (dsimp only; omega)) ?_)))) (HW.out.below (by repeat (first | (with_reducible exact Below.refl _ _) | (with_reducible assumption) | (with_reducible refine bthen (by with_reducible assumption) ?_) | (with_reducible refine balloc _ ?_) | (with_reducible refine bdrewN _ ?_) | (with_reducible refine bdrew ?_) | (with_reducible refine bset (by first | exact Nat.le_refl _ | (dsimp only; omega)) ?_)))) (HM.out.below (by repeat (first | (with_reducible exact Below.refl _ _) | (with_reducible assumption) | (with_reducible refine bthen (by with_reducible assumption) ?_) | (with_reducible refine balloc _ ?_) | (with_reducible refine bdrewN _ ?_) | (with_reducible refine bdrew ?_) | (with_reducible refine bset (by first | exact Nat.le_refl _ | (dsimp only; omega)) ?_)))) (HN.out.below (by repeat (first | (with_reducible exact Below.refl _ _) | (with_reducible assumption) | (with_reducible refine bthen (by with_reducible assumption) ?_) | (with_reducible refine balloc _ ?_) | (with_reducible refine bdrewN _ ?_) | (with_reducible refine bdrew ?_) | (with_reducible refine bset (by first | exact Nat.le_refl _ | (dsimp only; omega)) ?_))))).mono ?_); rintro e w' ⟨rfl, hb⟩; obtain ⟨hz, hc, hf⟩ := bcell hb; (try simp only [World.size_alloc] at hz); (try simp only [World.size_setCell] at hz); (try simp only [World.size_drew] at hz); (try simp only [World.heap_drewN] at hz); (try have hs0 : w.heap.size < w'.heap.size := by omega); (try have hs1 : w.heap.size + 1 < w'.heap.size := by omega); (try have hs2 : w.heap.size + 2 < w'.heap.size := by omega))
    go_ret
    exact ⟨rfl, (by repeat (first | (with_reducible exact Below.refl _ _) | (with_reducible assumption) | (with_reducible refine bthen (by with_reducible assumption) ?_) | (with_reducible refine balloc _ ?_) | (with_reducible refine bdrewN _ ?_) | (with_reducible refine bdrew ?_) | (with_reducible refine bset (by first | exact Nat.le_refl _ | (dsimp only; omega)) ?_)))⟩
end Go.Proofs.YtailocbophkmmaaDoor
